/- Contracts: MoveControl, the program's and the reference's. -/
import Derived.Test.YtcjggopdgkopiaaPairs
import Derived.Test.YtcjggopdgkopiaaNearFn
import Derived.Test.YtcjggopdgkopiaaPairsOf
namespace Go.Proofs.Ytcjggopdgkopiaa
set_option linter.unusedVariables false
set_option linter.unusedSimpArgs false
open Go.RowKit
set_option maxHeartbeats 1000000 in
theorem heldControlS_b {A : Option Addr} {n c b1 : Nat} {k : Int} {w : World} (hA : Rd w b1 2 A n (marksI k (n * 2))) (hk0 : 0 ≤ k) (hk1 : k ≤ 100000000) (hn : n ≤ 100000000) :
    Calls Try.prog 38 #[.slice A n c, .int .i64 k] w fun e w' => e = .returned (.int .i64 (k + n * 2)) ∧ Below w.heap.size w w' := by
  go_enter Try.func38, Try.ntmps38
  go_wp2_with fail
  go_loopw [1, 5] (fun q i wr => ∃ j : Nat, j ≤ n ∧ i = .int .i64 j ∧ q = .int .i64 (k + j * 2) ∧ wr = w) (fun _ i _ => n - (intOf i).toNat)
  case atStart => exact ⟨0, Nat.zero_le _, rfl, by go_num, by first | rfl | trivial⟩
  case round =>
    obtain ⟨j, hj, rfl, rfl, rfl⟩ := hrel
    by_cases hlt : j < n
    · obtain ⟨b, off, rfl, hbb, hca⟩ := hA.2 (by omega)
      have h1 := hca (j * 2) _ (marksI_get (show j * 2 < n * 2 by omega))
      have h2 := hca (j * 2 + 1) _ (marksI_get (show j * 2 + 1 < n * 2 by omega))
      rw [← Nat.add_assoc] at h2
      rw [show k + ((j * 2 : Nat) : Int) = k + j * 2 by omega] at h1
      rw [show k + ((j * 2 + 1 : Nat) : Int) = k + j * 2 + 1 by omega] at h2
      have n1 : ((k + j * 2 : Int) != (k + j * 2)) = false := by simp
      have n2 : ((k + j * 2 + 1 : Int) != (k + j * 2 + 1)) = false := by simp
      have q1 : IntKind.i64.wrap (k + j * 2 + 1) = k + j * 2 + 1 := IntWalk.i64_in _ (by omega)
      have q2 : IntKind.i64.wrap (k + j * 2 + 1 + 1) = k + j * 2 + 1 + 1 := IntWalk.i64_in _ (by omega)
      clear hca
      go_wp2_with fail
      go_roundw
      case rel => exact ⟨j + 1, by omega, by go_num, by congr 1; omega, by first | rfl | trivial⟩
      case measure => simp [intOf]; omega
    · go_wp2_with fail
      go_ret
      exact ⟨ret_int (by omega), Below.refl _ _⟩
/-- A list that is sorted already stays as it is. -/
theorem insertion_sorted {g : Nat} {lb : Array Value} {f : Ct → Ct → Int} {A : Option Addr} {n c : Nat} {l : List Ct} {w : World} (eg : ∀ args w, (callFunc g args).run Try.prog w = .ok (.enter g args) w) (hp : FnCmpL Try.prog g lb f l w) (hA : Rd w w.heap.size 2 A n (cts l)) (hn : n ≤ 10)
    (hs : ∀ j, 0 < j → j < n → 0 ≤ f (ctAt l j) (ctAt l (j - 1))) :
    Calls Try.prog 87 #[.slice A n c, .int .i64 0, .int .i64 n, .func (.func g) #[] lb] w fun e w' => (∃ v, e = .returned v) ∧ Below w.heap.size w w' := by
  have HX := Lib.hid hA.clen
  have HP := Lib.hid hp
  have HS := Lib.hid hs
  clear hp hs
  go_enter Try.func87, Try.ntmps87
  go_wp2_with fail
  go_loopw [8] (fun i wr => ∃ j : Nat, 1 ≤ j ∧ i = .int .i64 j ∧ j ≤ 11 ∧ Below w.heap.size w wr) (fun i _ => 20 - (intOf i).toNat)
  case atStart => exact ⟨1, Nat.le_refl _, by go_num, by omega, Below.refl _ _⟩
  case round =>
    obtain ⟨j, hj1, rfl, hj, G⟩ := hrel
    by_cases hlt : j < n
    · go_wp2_with fail
      go_loopw [9] (fun i wx => i = .int .i64 j ∧ Below w.heap.size w wx) (fun _ _ => 0)
      case atStart => exact ⟨rfl, G⟩
      clear G
      case round =>
        obtain ⟨rfl, G⟩ := hrel
        obtain ⟨b, off, rfl, hbb, hca⟩ := hA.ct (show 0 < n by omega)
        have kx : j < l.length := by rw [HX.out]; exact hlt
        have ky : j - 1 < l.length := by omega
        have CJ := Lib.hid (hca j kx)
        have CP := Lib.hid (hca (j - 1) ky)
        have HF := HS.out j (by omega) hlt
        rw [ctAt_get kx, ctAt_get ky] at HF
        have HC := Lib.hid (fun (W : World) (hW : Below w.heap.size w W) => HP.out l[j] (List.getElem_mem kx) l[j - 1] (List.getElem_mem ky) W hW)
        have j0 : 0 < j := hj1
        have p1 : IntKind.i64.wrap ((j : Int) - 1) = (j : Int) - 1 := IntWalk.i64_in _ (by omega)
        have p0 : (1 : Int) ≤ (j : Int) := by omega
        have p2 : (0 : Int) ≤ (j : Int) - 1 := by omega
        have p3 : ((j : Int) - 1).toNat = j - 1 := by omega
        have p4 : (j : Int) - 1 < (n : Int) := by omega
        have hfd : decide (f l[j] l[j - 1] < 0) = false := by simp; exact HF
        generalize f l[j] l[j - 1] = fv at *
        clear hca
        go_wp2_with fail
        refine wp_region_held_drew (S := fun w' => Below w.heap.size w w') (by kernel_rfl) ?_ (fun hHeld => ?_)
        · (try dsimp only)
          first | exact G.drew | exact hHeld.trans (hb6.mono hHeld.size) | exact hHeld
        refine rgTake (i := 0) (d := 18) (v := ?_) rfl rfl (by kernel_rfl) (by kernel_rfl) (by kernel_rfl) (fun _ _ _ h => h) (by rfl) ?_ (by assumption) ?_
        rotate_left
        · ((intro w hSw); (try dsimp only at hSw); go_simp; (try with_reducible rfl))
        try simp only [Act.put, List.setIfInBounds_toArray, List.set_cons_zero, List.set_cons_succ]
        refine rgTake (i := 1) (d := 19) (v := ?_) rfl rfl (by kernel_rfl) (by kernel_rfl) (by kernel_rfl) (fun _ _ _ h => h) (by rfl) ?_ (by assumption) ?_
        rotate_left
        · ((intro w hSw); (try dsimp only at hSw); go_simp; (try with_reducible rfl))
        try simp only [Act.put, List.setIfInBounds_toArray, List.set_cons_zero, List.set_cons_succ]
        refine rgTake (i := 2) (d := 20) (v := ?_) rfl rfl (by kernel_rfl) (by kernel_rfl) (by kernel_rfl) (fun _ _ _ h => h) (by rfl) ?_ (by assumption) ?_
        rotate_left
        · ((intro w hSw); (try dsimp only at hSw); go_simp; (try with_reducible rfl))
        try simp only [Act.put, List.setIfInBounds_toArray, List.set_cons_zero, List.set_cons_succ]
        refine rgTake (i := 3) (d := 21) (v := ?_) rfl rfl (by kernel_rfl) (by kernel_rfl) (by kernel_rfl) (fun _ _ _ h => h) (by rfl) ?_ (by assumption) ?_
        rotate_left
        · ((intro w hSw); (try dsimp only at hSw); go_simp; (try with_reducible rfl))
        try simp only [Act.put, List.setIfInBounds_toArray, List.set_cons_zero, List.set_cons_succ]
        refine rgTake (i := 4) (d := 22) (v := ?_) rfl rfl (by kernel_rfl) (by kernel_rfl) (by kernel_rfl) (fun _ _ _ h => h) (by rfl) ?_ (by assumption) ?_
        rotate_left
        · ((intro w hSw); (try dsimp only at hSw); go_simp; (try with_reducible rfl))
        try simp only [Act.put, List.setIfInBounds_toArray, List.set_cons_zero, List.set_cons_succ]
        refine rgTake (i := 5) (d := 23) (v := ?_) rfl rfl (by kernel_rfl) (by kernel_rfl) (by kernel_rfl) (fun _ _ _ h => h) (by rfl) ?_ (by assumption) ?_
        rotate_left
        · ((intro w hSw); (try dsimp only at hSw); go_simp; (try with_reducible rfl))
        try simp only [Act.put, List.setIfInBounds_toArray, List.set_cons_zero, List.set_cons_succ]
        refine rgTake (i := 6) (d := 24) (v := ?_) rfl rfl (by kernel_rfl) (by kernel_rfl) (by kernel_rfl) (fun _ _ _ h => h) (by rfl) ?_ (by assumption) ?_
        rotate_left
        · ((intro w hSw); (try dsimp only at hSw); go_simp; (try with_reducible rfl))
        try simp only [Act.put, List.setIfInBounds_toArray, List.set_cons_zero, List.set_cons_succ]
        refine rgTake (i := 7) (d := 25) (v := ?_) rfl rfl (by kernel_rfl) (by kernel_rfl) (by kernel_rfl) (fun _ _ _ h => h) (by rfl) ?_ (by assumption) ?_
        rotate_left
        · ((intro w hSw); (try dsimp only at hSw); go_simp; (try with_reducible rfl))
        try simp only [Act.put, List.setIfInBounds_toArray, List.set_cons_zero, List.set_cons_succ]
        refine rgTake (i := 8) (d := 26) (v := ?_) rfl rfl (by kernel_rfl) (by kernel_rfl) (by kernel_rfl) (fun _ _ _ h => h) (by rfl) ?_ (by assumption) ?_
        rotate_left
        · ((intro w hSw); (try dsimp only at hSw); (have y0 := ((bcell hSw).1 b (off + j * 2) hbb).trans CJ.out.1; have y1 := ((bcell hSw).1 b (off + j * 2 + 1) hbb).trans CJ.out.2; have y2 := ((bcell hSw).1 b (off + (j - 1) * 2) hbb).trans CP.out.1; have y3 := ((bcell hSw).1 b (off + (j - 1) * 2 + 1) hbb).trans CP.out.2); go_simp; (try with_reducible rfl))
        try simp only [Act.put, List.setIfInBounds_toArray, List.set_cons_zero, List.set_cons_succ]
        refine rgTake (i := 9) (d := 27) (v := ?_) rfl rfl (by kernel_rfl) (by kernel_rfl) (by kernel_rfl) (fun _ _ _ h => h) (by rfl) ?_ (by assumption) ?_
        rotate_left
        · ((intro w hSw); (try dsimp only at hSw); go_simp; (try with_reducible rfl))
        try simp only [Act.put, List.setIfInBounds_toArray, List.set_cons_zero, List.set_cons_succ]
        refine rgTake (i := 10) (d := 28) (v := ?_) rfl rfl (by kernel_rfl) (by kernel_rfl) (by kernel_rfl) (fun _ _ _ h => h) (by rfl) ?_ (by assumption) ?_
        rotate_left
        · ((intro w hSw); (try dsimp only at hSw); go_simp; (try with_reducible rfl))
        try simp only [Act.put, List.setIfInBounds_toArray, List.set_cons_zero, List.set_cons_succ]
        refine rgTake (i := 11) (d := 29) (v := ?_) rfl rfl (by kernel_rfl) (by kernel_rfl) (by kernel_rfl) (fun _ _ _ h => h) (by rfl) ?_ (by assumption) ?_
        rotate_left
        · ((intro w hSw); (try dsimp only at hSw); go_simp; (try with_reducible rfl))
        try simp only [Act.put, List.setIfInBounds_toArray, List.set_cons_zero, List.set_cons_succ]
        refine rgTake (i := 12) (d := 30) (v := ?_) rfl rfl (by kernel_rfl) (by kernel_rfl) (by kernel_rfl) (fun _ _ _ h => h) (by rfl) ?_ (by assumption) ?_
        rotate_left
        · ((intro w hSw); (try dsimp only at hSw); go_simp; (try with_reducible rfl))
        try simp only [Act.put, List.setIfInBounds_toArray, List.set_cons_zero, List.set_cons_succ]
        refine rgTake (i := 13) (d := 31) (v := ?_) rfl rfl (by kernel_rfl) (by kernel_rfl) (by kernel_rfl) (fun _ _ _ h => h) (by rfl) ?_ (by assumption) ?_
        rotate_left
        · ((intro w hSw); (try dsimp only at hSw); (have y0 := ((bcell hSw).1 b (off + j * 2) hbb).trans CJ.out.1; have y1 := ((bcell hSw).1 b (off + j * 2 + 1) hbb).trans CJ.out.2; have y2 := ((bcell hSw).1 b (off + (j - 1) * 2) hbb).trans CP.out.1; have y3 := ((bcell hSw).1 b (off + (j - 1) * 2 + 1) hbb).trans CP.out.2); go_simp; (try with_reducible rfl))
        try simp only [Act.put, List.setIfInBounds_toArray, List.set_cons_zero, List.set_cons_succ]
        refine wpAnyH_ready (rs := [14]) (by kernel_rfl) (by simp) ?_
        refine AllReadyH.cons rfl (fun K hK => ?_) AllReadyH.nil
        go_simp
        refine (HC.out _ hHeld).mono ?_; rintro e wy ⟨rfl, hb6⟩
        go_wp2_with fail
        refine hK.out _ _ ?_ (fun hHeld => ?_)
        · (try dsimp only)
          first | exact G.drew | exact hHeld.trans (hb6.mono hHeld.size) | exact hHeld
        clear hK K
        try simp only [Act.put, List.setIfInBounds_toArray, List.set_cons_zero, List.set_cons_succ]
        refine rgTake (i := 15) (d := 33) (v := ?_) rfl rfl (by kernel_rfl) (by kernel_rfl) (by kernel_rfl) (fun _ _ _ h => h) (by rfl) ?_ (by assumption) ?_
        rotate_left
        · ((intro w hSw); (try dsimp only at hSw); go_simp; (try with_reducible rfl))
        try simp only [Act.put, List.setIfInBounds_toArray, List.set_cons_zero, List.set_cons_succ]
        refine rgTake (i := 16) (d := 34) (v := ?_) rfl rfl (by kernel_rfl) (by kernel_rfl) (by kernel_rfl) (fun _ _ _ h => h) (by rfl) ?_ (by assumption) ?_
        rotate_left
        · ((intro w hSw); (try dsimp only at hSw); go_simp; (try with_reducible rfl))
        try simp only [Act.put, List.setIfInBounds_toArray, List.set_cons_zero, List.set_cons_succ]
        refine wpAnyH_done (by kernel_rfl) ?_ _
        clear p1 p0 p2 p3 p4
        go_wp2_with fail
        go_roundw
        case rel => exact ⟨j + 1, by omega, by go_num, by omega, hHeld⟩
        case measure => simp [intOf]; omega
    · have nlt : ¬ (j : Int) < (n : Int) := by omega
      go_wp2_with fail
      go_end0
      exact ⟨⟨_, rfl⟩, G⟩
theorem stable_sorted {g : Nat} {lb : Array Value} {f : Ct → Ct → Int} {A : Option Addr} {n c : Nat} {l : List Ct} {w : World} (eg : ∀ args w, (callFunc g args).run Try.prog w = .ok (.enter g args) w) (hp : FnCmpL Try.prog g lb f l w) (hA : Rd w w.heap.size 2 A n (cts l)) (hn : n ≤ 10)
    (hs : ∀ j, 0 < j → j < n → 0 ≤ f (ctAt l j) (ctAt l (j - 1))) :
    Calls Try.prog 86 #[.slice A n c, .int .i64 n, .func (.func g) #[] lb] w fun e w' => (∃ v, e = .returned v) ∧ Below w.heap.size w w' := by
  have n20 : ¬ (20 : Int) ≤ (n : Int) := by omega
  have n21 : decide ((20 : Int) ≤ (n : Int)) = false := by simp; omega
  have n22 : ¬ (20 : Int) < (n : Int) := by omega
  have n23 : decide ((20 : Int) < (n : Int)) = false := by simp; omega
  have HS := Lib.hid hs
  clear hs
  go_enter Try.func86, Try.ntmps86
  go_wp2_with fail
  go_loopw [7, 8] (fun a b wr => a = .int .i64 0 ∧ b = .int .i64 20 ∧ wr = w) (fun _ _ _ => 0)
  case atStart => exact ⟨rfl, rfl, by first | rfl | trivial⟩
  case round =>
    obtain ⟨rfl, rfl, rfl⟩ := hrel
    go_wp2_with fail
    refine (insertion_sorted eg hp hA hn HS.out).mono ?_
    rintro e w1 ⟨⟨v, rfl⟩, hb⟩
    go_wp2_with fail
    go_loopw [6] (fun a wr => a = .int .i64 20 ∧ wr = w1) (fun _ _ => 0)
    case atStart => exact ⟨rfl, by first | rfl | trivial⟩
    case round =>
      obtain ⟨rfl, rfl⟩ := hrel
      go_wp2_with fail
      go_end0
      exact ⟨⟨_, rfl⟩, hb⟩
theorem SortStable_sorted {g : Nat} {lb : Array Value} {f : Ct → Ct → Int} {A : Option Addr} {n c : Nat} {l : List Ct} {w : World} (eg : ∀ args w, (callFunc g args).run Try.prog w = .ok (.enter g args) w) (hp : FnCmpL Try.prog g lb f l w) (hA : Rd w w.heap.size 2 A n (cts l)) (hn : n ≤ 10)
    (hs : ∀ j, 0 < j → j < n → 0 ≤ f (ctAt l j) (ctAt l (j - 1))) :
    Calls Try.prog 83 #[.slice A n c, .func (.func g) #[] lb] w fun e w' => (∃ v, e = .returned v) ∧ Below w.heap.size w w' := by
  have HS := Lib.hid hs
  clear hs
  go_enter Try.func83, Try.ntmps83
  go_wp2_with fail
  refine (stable_sorted eg hp hA hn HS.out).mono ?_
  rintro e w1 ⟨⟨v, rfl⟩, hb⟩
  go_wp2_with fail
  go_end0
  exact ⟨⟨_, rfl⟩, hb⟩
def wcR (m : Mp) (l : List Ct) (k9 : Nat) (x y : Int) : List Ct := if okCts m (l.set k9 ⟨x, y⟩) = true then l.set k9 ⟨x, y⟩ else []
def mvL (l : List Ct) (x y : Int) : List Ct := l.set (ixC l x).toNat ⟨x, y⟩
def mvOk (m : Mp) (l : List Ct) (x y : Int) : Bool := (okCts m l && decide (0 ≤ ixC l x)) && okCts m (mvL l x y)
def mvR (m : Mp) (l : List Ct) (x y : Int) : List Ct := if mvOk m l x y = true then mvL l x y else []
theorem mvR_b (m : Mp) (l : List Ct) (x y : Int) : (mvR m l x y).length ≤ 1000 := by
  unfold mvR
  split
  · next h =>
    unfold mvOk at h
    rw [Bool.and_eq_true] at h
    have := (okCts_iff h.2).2.1
    omega
  · simp
theorem cts_set2 (l : List Ct) (k : Nat) (a b : Int) (hk : k < l.length) : ((cts l).set (k * 2) (.int .i64 a)).set (k * 2 + 1) (.int .i64 b) = cts (l.set k ⟨a, b⟩) := by
  have hlen : ((cts l).set (k * 2) (.int .i64 a)).set (k * 2 + 1) (.int .i64 b) = _ := rfl
  apply List.ext_getElem?
  intro i
  have hl2 : (l.set k ⟨a, b⟩).length = l.length := by simp
  by_cases hi : i < l.length * 2
  · obtain ⟨j, r, hr, rfl⟩ : ∃ j r, r < 2 ∧ i = j * 2 + r := ⟨i / 2, i % 2, Nat.mod_lt _ (by omega), by omega⟩
    have hj : j < l.length := by omega
    have hj2 : j < (l.set k ⟨a, b⟩).length := by rw [hl2]; exact hj
    have g0 := cts_get hj
    have g1 := cts_get hj2
    have hcl := cts_len l
    rcases (show r = 0 ∨ r = 1 by omega) with rfl | rfl
    · simp only [Nat.add_zero]
      rw [g1.1]
      rw [List.getElem?_set_ne (by omega)]
      by_cases e : j = k
      · subst e; rw [List.getElem?_set_self (by omega)]; simp
      · rw [List.getElem?_set_ne (by omega), g0.1, List.getElem_set_ne (Ne.symm e)]
    · rw [g1.2]
      by_cases e : j = k
      · subst e; rw [List.getElem?_set_self (by simp; omega)]; simp
      · rw [List.getElem?_set_ne (by omega), List.getElem?_set_ne (by omega), g0.2, List.getElem_set_ne (Ne.symm e)]
  · rw [List.getElem?_eq_none (by simp [cts_len]; omega), List.getElem?_eq_none (by rw [cts_len, hl2]; omega)]
theorem ctC_set {l : List Ct} {k : Nat} {a b : Int} (hk : k < l.length) (he : ctC l k = a) (j : Nat) : ctC (l.set k ⟨a, b⟩) j = ctC l j := by
  unfold ctC at he ⊢
  by_cases e : j = k
  · subst e; simp [List.getD, hk] at he ⊢; exact he.symm
  · simp [List.getD, List.getElem?_set_ne (Ne.symm e)]
theorem own_cap {w : World} {base n c size : Nat} {e : TypeId} {A : Option Addr} {xs : List Value} (h : w.ownsRow base e size (.slice A n c) n xs) : n ≤ c := by
  rcases h.2 with ⟨hv, h0⟩ | ⟨g, cap, cur, hv, hb, hg, hle, _⟩
  · omega
  · injection hv with h1 h2 h3; omega
theorem cts_one (l : List Ct) : ∀ u ∈ cts l, u.oneCell' = true := by
  intro u hu
  obtain ⟨c, _, hu⟩ := List.mem_flatMap.1 hu
  simp [Ct.cells] at hu
  rcases hu with rfl | rfl <;> rfl
theorem withControl1 {l : List Ct} {w : World} : FnCmpL Try.prog 84 #[] (fun a b => cmpI a.code b.code) l w := by
  intro a _ b _ W _
  go_enter Try.func84, Try.ntmps84
  go_wp2_with fail
  refine (Compare_any _ _ _).mono ?_
  rintro e w1 ⟨rfl, rfl⟩
  go_wp2_with fail
  go_ret
  exact ⟨rfl, (by repeat (first | exact Below.refl _ _ | refine below_drewN ?_ _ | refine Below.drew ?_ | refine Below.alloc ?_ (by first | omega | (simp; done) | (simp; omega)) _ | refine Below.setCell ?_ (by first | omega | (simp; done) | (simp; omega)) _))⟩
set_option maxRecDepth 100000 in
set_option maxHeartbeats 2000000 in
theorem withControl_any {m : Mp} {v : Value} {R : Option Addr} {q cq k9 : Nat} {l : List Ct} {x y : Int} {w : World} (hv : MapIn w m v) (hR : Rd w w.heap.size 2 R q (cts l)) (hqc : q ≤ cq) (hok : okCts m l = true) (hk9 : k9 < l.length) (hx : ctC l k9 = x) :
    Calls Try.prog 68 #[v, .slice R q cq, .int .i64 (k9 : Int), .agg #[.int .i64 x, .int .i64 y]] w fun e w' => ∃ A cp, e = .returned (.tuple #[.slice A (wcR m l k9 x y).length cp, .bool (okCts m (l.set k9 ⟨x, y⟩))]) ∧ w'.ownsRow w.heap.size 54 2 (.slice A (wcR m l k9 x y).length cp) (wcR m l k9 x y).length (cts (wcR m l k9 x y)) ∧ Below w.heap.size w w' := by
  have hv' := hv
  obtain ⟨A, n, cp, B, k, d, rfl, h1, h2, h3, h4⟩ := hv
  have K := Blk.new w 29 [.int .i64 m.wd, .int .i64 m.ht, .slice A n cp, .slice B k d]
  have G : Below w.heap.size w (w.alloc (.cells #[.int .i64 m.wd, .int .i64 m.ht, .slice A n cp, .slice B k d] 29)) := (by repeat (first | exact Below.refl _ _ | refine below_drewN ?_ _ | refine Below.drew ?_ | refine Below.alloc ?_ (by first | omega | (simp; done) | (simp; omega)) _ | refine Below.setCell ?_ (by first | omega | (simp; done) | (simp; omega)) _))
  have HQ := Lib.hid hR.clen
  obtain ⟨V, h10, hall⟩ := okCts_iff hok
  have hq0 : 0 < q := by have := HQ.out; omega
  have hq10 : q ≤ 10 := by have := HQ.out; omega
  have hk9q : k9 < q := by have := HQ.out; omega
  have ik : (k9 : Int) < (q : Int) := by omega
  obtain ⟨b, off, rfl, hbb, hcc⟩ := hR.2 hq0
  obtain ⟨i0, hi0, hz0, hz1, hz2⟩ := info_parts ctl_info
  have hsz : (w.alloc (.cells #[.int .i64 m.wd, .int .i64 m.ht, .slice A n cp, .slice B k d] 29)).heap.size = w.heap.size + 1 := by simp
  have C0 := Blk.new (w.alloc (.cells #[.int .i64 m.wd, .int .i64 m.ht, .slice A n cp, .slice B k d] 29)) 54 [.int .i64 x, .int .i64 y]
  rw [hsz] at C0
  have hsz2 : ((w.alloc (.cells #[.int .i64 m.wd, .int .i64 m.ht, .slice A n cp, .slice B k d] 29)).alloc (.cells #[.int .i64 x, .int .i64 y] 54)).heap.size = w.heap.size + 2 := by simp
  have OW0 := World.ownsRow_lit (base := w.heap.size + 2) (size := 2) (e := 54) ((w.alloc (.cells #[.int .i64 m.wd, .int .i64 m.ht, .slice A n cp, .slice B k d] 29)).alloc (.cells #[.int .i64 x, .int .i64 y] 54)) #[] 0 (by rw [hsz2]; exact Nat.le_refl _) (by simp) rfl
  rw [hsz2] at OW0
  have OW : (((w.alloc (.cells #[.int .i64 m.wd, .int .i64 m.ht, .slice A n cp, .slice B k d] 29)).alloc (.cells #[.int .i64 x, .int .i64 y] 54)).alloc (.cells #[] 54)).ownsRow (w.heap.size + 2) 54 2 (.slice (some ⟨w.heap.size + 2, 0, none⟩) 0 0) 0 [] := OW0
  replace K := (K.alloc (.cells #[.int .i64 x, .int .i64 y] 54)).alloc (.cells #[] 54)
  have C := C0.alloc (.cells #[] 54)
  replace G := (G.alloc G.size (.cells #[.int .i64 x, .int .i64 y] 54)).alloc (G.alloc G.size (.cells #[.int .i64 x, .int .i64 y] 54)).size (.cells #[] 54)
  clear C0 OW0 hsz hsz2
  have HUP : Hid (∀ j, 0 < j → j < q → 0 ≤ cmpI (ctAt (l.set k9 ⟨x, y⟩) j).code (ctAt (l.set k9 ⟨x, y⟩) (j - 1)).code) := by
    intro j hj hjq
    have h1 := codes_up hall j (by rw [HQ.out]; exact hjq) (j - 1) (by omega)
    rw [← ctC_set hk9 hx (b := y) j, ← ctC_set hk9 hx (b := y) (j - 1)] at h1
    show 0 ≤ cmpI (ctC _ j) (ctC _ (j - 1))
    unfold cmpI
    rw [if_neg (by omega), if_pos h1]; omega
  have e84 := enters_of (P := Try.prog) Try.func84 (by kernel_rfl) rfl
  have HLS : Hid ((l.set k9 ⟨x, y⟩).length = q) := by show _ = _; rw [List.length_set]; exact HQ.out
  clear hok hall hx
  have ltK := K.lt
  have ltC := C.lt
  go_enter Try.func68, Try.ntmps68
  go_wp2_with (at_builtin; refine wpList_append_own _ rfl _ _ 31 rfl (w.heap.size + 2) 54 i0 (.agg #[.int .i64 0, .int .i64 0]) 2 16 Try.underlying31 hi0 hz0 hz1 hz2 rfl (by decide) _ _ _ rfl OW ⟨b, off, none⟩ q cq (cts l) rfl (by rw [cts_len, HQ.out]) ?c1 ?c2 ?c3 ?c4 (by first | (simp; done) | (simp; omega) | omega) ?_)
  case c1 => intro j u hu; (try rw [add_none]); exact ((bcell G).1 b (off + j) hbb).trans (hcc j u hu)
  case c2 => exact cts_one l
  case c3 => simp only [maxLen]; omega
  case c4 => omega
  intro v9 w9 own1 grow1 _
  (try simp only [Nat.zero_add, List.nil_append] at own1)
  obtain ⟨P9, c9, rfl⟩ := own_form own1
  obtain ⟨g9, rfl, hg9, _⟩ := own_at own1 hq0
  have K9 := K.grown grow1 (fun h => by have := (OW.lt _ h.symm).1; omega)
  have C9 := C.grown grow1 (fun h => by have := (OW.lt _ h.symm).1; omega)
  have G9 := G.grown grow1 G.size (fun k hk => by have := (OW.lt k hk).1; omega)
  clear K C G OW grow1 ltK ltC
  have cc0 : w9.cell? ⟨w.heap.size + 1, 0, none⟩ = some (.int .i64 x) := C9.cell 0
  have cc1 : w9.cell? ⟨w.heap.size + 1, 1, none⟩ = some (.int .i64 y) := C9.cell 1
  have y1 : k9 * 2 < (cts l).length := by rw [cts_len]; omega
  have y2 : k9 * 2 + 1 < (cts l).length := by rw [cts_len]; omega
  have hc1 : w9.cell? ⟨g9, k9 * 2, none⟩ = some (cts l)[k9 * 2] := by rw [own1.cellAt (k9 * 2) (by omega)]; simp [y1]
  have hf1 := own1.frozenAt (k9 * 2)
  obtain ⟨ho1, hg1⟩ := own1.stored (k9 * 2) (.int .i64 x)
  have hc2 := ho1.cellAt (k9 * 2 + 1) (by omega)
  have hf2 := ho1.frozenAt (k9 * 2 + 1)
  rw [List.getElem?_set_ne (by omega), List.getElem?_eq_getElem y2] at hc2
  obtain ⟨ho2, hg2⟩ := ho1.stored (k9 * 2 + 1) (.int .i64 y)
  rw [cts_set2 l k9 x y hk9] at ho2
  have HO := Lib.hid ho2
  have HG1 := Lib.hid hg1
  have HG2 := Lib.hid hg2
  clear ho1 hg1 ho2 hg2
  have K2 := (K9.far (p := ⟨g9, k9 * 2, none⟩) (by simp; omega) (.int .i64 x)).far (p := ⟨g9, k9 * 2 + 1, none⟩) (by simp; omega) (.int .i64 y)
  have G2 := Below.setCell (p := ⟨g9, k9 * 2 + 1, none⟩) (Below.setCell (p := ⟨g9, k9 * 2, none⟩) G9 (by simp; omega) (.int .i64 x)) (by simp; omega) (.int .i64 y)
  clear K9 C9 G9
  go_wp2_with fail
  refine (SortStable_sorted (g := 84) e84 withControl1 (Rd.of_own HO.out) hq10 HUP.out).mono ?_
  rintro e w3 ⟨⟨v3, rfl⟩, hb3⟩
  have O3 := own_below HO.out hb3
  have K3 := K2.on hb3
  have G3 := G2.trans (hb3.mono G2.size)
  obtain ⟨k0, k1, k2, k3⟩ := blk4 K3
  go_wp2_with fail
  refine (AreControls_any (m := m) (hv'.on G3) (Rd.of_own O3) (by omega) (own_cap O3)).mono ?_
  rintro e w4 ⟨rfl, hb4⟩
  have O4 := own_below O3 hb4
  have G4 := G3.trans (hb4.mono G3.size)
  cases hok2 : okCts m (l.set k9 ⟨x, y⟩)
  · have e9 : wcR m l k9 x y = [] := by unfold wcR; rw [hok2]; rfl
    have E9 := Lib.hid e9
    clear e9
    go_wp2_with fail
    go_ret2
    rw [E9.out, hok2]
    exact ⟨none, 0, rfl, World.ownsRow_nil _ _ _ _, G4⟩
  · have e9 : wcR m l k9 x y = l.set k9 ⟨x, y⟩ := by unfold wcR; rw [hok2]; rfl
    have E9 := Lib.hid e9
    clear e9
    go_wp2_with fail
    go_ret2
    rw [E9.out, hok2, HLS.out]
    exact ⟨_, c9, rfl, own_le O4 (by omega), G4⟩
set_option maxRecDepth 100000 in
set_option maxHeartbeats 2000000 in
theorem MoveControl_impl {m : Mp} {v : Value} {R : Option Addr} {q cq : Nat} {l : List Ct} {x y : Int} {w : World} (hv : MapIn w m v) (hR : Rd w w.heap.size 2 R q (cts l)) (hq : q ≤ 1048576) (hqc : q ≤ cq) :
    Calls Try.prog 37 #[v, .slice R q cq, .int .i64 x, .int .i64 y] w fun e w' => ∃ A cp, e = .returned (.tuple #[.slice A (mvR m l x y).length cp, .bool (mvOk m l x y)]) ∧ w'.ownsRow w.heap.size 54 2 (.slice A (mvR m l x y).length cp) (mvR m l x y).length (cts (mvR m l x y)) ∧ Below w.heap.size w w' := by
  have hv' := hv
  obtain ⟨A, n, cp, B, k, d, rfl, h1, h2, h3, h4⟩ := hv
  have K := Blk.new w 29 [.int .i64 m.wd, .int .i64 m.ht, .slice A n cp, .slice B k d]
  have G : Below w.heap.size w (w.alloc (.cells #[.int .i64 m.wd, .int .i64 m.ht, .slice A n cp, .slice B k d] 29)) := (by repeat (first | exact Below.refl _ _ | refine below_drewN ?_ _ | refine Below.drew ?_ | refine Below.alloc ?_ (by first | omega | (simp; done) | (simp; omega)) _ | refine Below.setCell ?_ (by first | omega | (simp; done) | (simp; omega)) _))
  have HQ := Lib.hid hR.clen
  cases hok : okCts m l
  · have e1 : mvOk m l x y = false := by unfold mvOk; rw [hok]; rfl
    have e2 : mvR m l x y = [] := by unfold mvR; rw [e1]; rfl
    rw [e1, e2]; clear e1 e2
    have HOK := Lib.hid hok
    clear hok
    go_enter Try.func37, Try.ntmps37
    go_wp2_with fail
    refine (controlOf_any (hR.on G) hq).mono ?_
    rintro e w1 ⟨rfl, hb⟩
    replace K := K.on hb
    replace G := G.trans (hb.mono G.size)
    clear hb
    rw [show idxB (fun c => c.code == x) l 0 = ixC l x from rfl]
    obtain ⟨k0, k1, k2, k3⟩ := blk4 K
    go_wp2_with fail
    refine (AreControls_any (m := m) (hv'.on G) (hR.on G) hq hqc).mono ?_
    rintro e w2 ⟨rfl, hb⟩
    clear k0 k1 k2 k3
    replace K := K.on hb
    replace G := G.trans (hb.mono G.size)
    clear hb
    rw [HOK.out]
    obtain ⟨k0, k1, k2, k3⟩ := blk4 K
    go_wp2_with fail
    go_ret2
    exact ⟨none, 0, rfl, World.ownsRow_nil _ _ _ _, G⟩
  · by_cases h0 : 0 ≤ ixC l x
    · have HOK := Lib.hid hok
      obtain ⟨k9, hk9, hix, hpk, hnk⟩ := idxB_some l 0 h0
      have hix2 : ixC l x = (k9 : Int) := by unfold ixC; rw [hix]; simp
      have hx9 : ctC l k9 = x := by rw [ctC_get (by simpa using hk9)]; simpa using hpk
      have hl9 : mvL l x y = l.set k9 ⟨x, y⟩ := by unfold mvL; rw [hix2]; simp
      have e1 : mvOk m l x y = okCts m (l.set k9 ⟨x, y⟩) := by unfold mvOk; rw [hok, hl9, hix2]; simp
      have e2 : mvR m l x y = wcR m l k9 x y := by unfold mvR wcR; rw [e1, hl9]
      rw [e1, e2]; clear e1 e2
      have HIX := Lib.hid hix2
      have HX9 := Lib.hid hx9
      clear hix hix2 h0 hl9 hok hpk hnk hx9
      go_enter Try.func37, Try.ntmps37
      go_wp2_with fail
      refine (controlOf_any (hR.on G) hq).mono ?_
      rintro e w1 ⟨rfl, hb⟩
      replace K := K.on hb
      replace G := G.trans (hb.mono G.size)
      clear hb
      rw [show idxB (fun c => c.code == x) l 0 = ixC l x from rfl]
      rw [HIX.out]
      obtain ⟨k0, k1, k2, k3⟩ := blk4 K
      go_wp2_with fail
      refine (AreControls_any (m := m) (hv'.on G) (hR.on G) hq hqc).mono ?_
      rintro e w2 ⟨rfl, hb⟩
      clear k0 k1 k2 k3
      replace K := K.on hb
      replace G := G.trans (hb.mono G.size)
      clear hb
      rw [HOK.out]
      obtain ⟨k0, k1, k2, k3⟩ := blk4 K
      go_wp2_with fail
      refine (withControl_any (m := m) (x := x) (y := y) (hv'.on G) (hR.on G) hqc HOK.out hk9 HX9.out).mono ?_
      rintro e w9 ⟨A', c', rfl, O, hb⟩
      go_wp2_with fail
      go_ret2
      exact ⟨A', c', rfl, own_le O G.size, G.trans (hb.mono G.size)⟩
    · have HOK := Lib.hid hok
      have e1 : mvOk m l x y = false := by unfold mvOk; rw [show decide (0 ≤ ixC l x) = false by simpa using h0]; simp
      have e2 : mvR m l x y = [] := by unfold mvR; rw [e1]; rfl
      rw [e1, e2]; clear e1 e2
      have h9 : decide (ixC l x < 0) = true := by simp; omega
      have h8 : ixC l x < 0 := by omega
      clear hok
      go_enter Try.func37, Try.ntmps37
      go_wp2_with fail
      refine (controlOf_any (hR.on G) hq).mono ?_
      rintro e w1 ⟨rfl, hb⟩
      replace K := K.on hb
      replace G := G.trans (hb.mono G.size)
      clear hb
      rw [show idxB (fun c => c.code == x) l 0 = ixC l x from rfl]
      obtain ⟨k0, k1, k2, k3⟩ := blk4 K
      go_wp2_with fail
      refine (AreControls_any (m := m) (hv'.on G) (hR.on G) hq hqc).mono ?_
      rintro e w2 ⟨rfl, hb⟩
      clear k0 k1 k2 k3
      replace K := K.on hb
      replace G := G.trans (hb.mono G.size)
      clear hb
      rw [HOK.out]
      obtain ⟨k0, k1, k2, k3⟩ := blk4 K
      go_wp2_with fail
      go_ret2
      exact ⟨none, 0, rfl, World.ownsRow_nil _ _ _ _, G⟩
set_option maxRecDepth 100000 in
set_option maxHeartbeats 2000000 in
theorem MoveControl_spec {m : Mp} {v : Value} {R : Option Addr} {q cq : Nat} {l : List Ct} {x y : Int} {w : World} (hv : MapIn w m v) (hR : Rd w w.heap.size 2 R q (cts l)) (hq : q ≤ 1048576) (hqc : q ≤ cq) :
    Calls Try.prog 36 #[v, .slice R q cq, .int .i64 x, .int .i64 y] w fun e w' => ∃ A cp, e = .returned (.tuple #[.slice A (mvR m l x y).length cp, .bool (mvOk m l x y)]) ∧ w'.ownsRow w.heap.size 54 2 (.slice A (mvR m l x y).length cp) (mvR m l x y).length (cts (mvR m l x y)) ∧ Below w.heap.size w w' := by
  have hv' := hv
  obtain ⟨A, n, cp, B, k, d, rfl, h1, h2, h3, h4⟩ := hv
  have K := Blk.new w 29 [.int .i64 m.wd, .int .i64 m.ht, .slice A n cp, .slice B k d]
  have G : Below w.heap.size w (w.alloc (.cells #[.int .i64 m.wd, .int .i64 m.ht, .slice A n cp, .slice B k d] 29)) := (by repeat (first | exact Below.refl _ _ | refine below_drewN ?_ _ | refine Below.drew ?_ | refine Below.alloc ?_ (by first | omega | (simp; done) | (simp; omega)) _ | refine Below.setCell ?_ (by first | omega | (simp; done) | (simp; omega)) _))
  have HQ := Lib.hid hR.clen
  cases hok : okCts m l
  · have e1 : mvOk m l x y = false := by unfold mvOk; rw [hok]; rfl
    have e2 : mvR m l x y = [] := by unfold mvR; rw [e1]; rfl
    rw [e1, e2]; clear e1 e2
    have HOK := Lib.hid hok
    clear hok
    go_enter Try.func36, Try.ntmps36
    go_wp2_with fail
    refine (l6Find_any (hR.on G) hq).mono ?_
    rintro e w1 ⟨rfl, hb⟩
    replace K := K.on hb
    replace G := G.trans (hb.mono G.size)
    clear hb
    rw [show idxB (fun c => c.code == x) l 0 = ixC l x from rfl]
    obtain ⟨k0, k1, k2, k3⟩ := blk4 K
    go_wp2_with fail
    refine (l6Good_any (m := m) (hv'.on G) (hR.on G) hq hqc).mono ?_
    rintro e w2 ⟨rfl, hb⟩
    clear k0 k1 k2 k3
    replace K := K.on hb
    replace G := G.trans (hb.mono G.size)
    clear hb
    rw [HOK.out]
    obtain ⟨k0, k1, k2, k3⟩ := blk4 K
    go_wp2_with fail
    go_ret2
    exact ⟨_, 0, rfl, World.ownsRow_lit _ #[] 0 G.size (by simp) rfl, G.alloc G.size _⟩
  · by_cases h0 : 0 ≤ ixC l x
    · have HOK := Lib.hid hok
      obtain ⟨k9, hk9, hix, hpk, hnk⟩ := idxB_some l 0 h0
      have hix2 : ixC l x = (k9 : Int) := by unfold ixC; rw [hix]; simp
      have hx9 : ctC l k9 = x := by rw [ctC_get (by simpa using hk9)]; simpa using hpk
      have hl9 : mvL l x y = l.set k9 ⟨x, y⟩ := by unfold mvL; rw [hix2]; simp
      have e1 : mvOk m l x y = okCts m (l.set k9 ⟨x, y⟩) := by unfold mvOk; rw [hok, hl9, hix2]; simp
      have e2 : mvR m l x y = wcR m l k9 x y := by unfold mvR wcR; rw [e1, hl9]
      rw [e1, e2]; clear e1 e2
      have HIX := Lib.hid hix2
      have HX9 := Lib.hid hx9
      clear hix hix2 h0 hl9 hok hpk hnk hx9
      have hq0 : 0 < q := by have := HQ.out; omega
      have hq10 : q ≤ 10 := by have := (okCts_iff HOK.out).2.1; have := HQ.out; omega
      have hk9q : k9 < q := by have := HQ.out; omega
      have ik : (k9 : Int) < (q : Int) := by omega
      obtain ⟨b, off, rfl, hbb, hcc⟩ := hR.2 hq0
      obtain ⟨i0, hi0, hz0, hz1, hz2⟩ := info_parts ctl_info
      have HLS : Hid ((l.set k9 ⟨x, y⟩).length = q) := by show _ = _; rw [List.length_set]; exact HQ.out
      go_enter Try.func36, Try.ntmps36
      go_wp2_with fail
      refine (l6Find_any (hR.on G) hq).mono ?_
      rintro e w1 ⟨rfl, hb⟩
      replace K := K.on hb
      replace G := G.trans (hb.mono G.size)
      clear hb
      rw [show idxB (fun c => c.code == x) l 0 = ixC l x from rfl]
      rw [HIX.out]
      obtain ⟨k0, k1, k2, k3⟩ := blk4 K
      go_wp2_with fail
      refine (l6Good_any (m := m) (hv'.on G) (hR.on G) hq hqc).mono ?_
      rintro e w2 ⟨rfl, hb⟩
      clear k0 k1 k2 k3
      replace K := K.on hb
      replace G := G.trans (hb.mono G.size)
      clear hb
      rw [HOK.out]
      obtain ⟨k0, k1, k2, k3⟩ := blk4 K
      have OW := World.ownsRow_lit (base := w2.heap.size) (size := 2) (e := 54) w2 #[] 0 (Nat.le_refl _) (by simp) rfl
      have ltK := K.lt
      have szG := G.size
      replace K := K.alloc (.cells #[] 54)
      replace G := G.alloc G.size (.cells #[] 54)
      clear k0 k1 k2 k3
      go_wp2_with (at_builtin; refine wpList_append_own _ rfl _ _ 31 rfl w2.heap.size 54 i0 (.agg #[.int .i64 0, .int .i64 0]) 2 16 Try.underlying31 hi0 hz0 hz1 hz2 rfl (by decide) _ _ _ rfl OW ⟨b, off, none⟩ q cq (cts l) rfl (by rw [cts_len, HQ.out]) ?c1 ?c2 ?c3 ?c4 (by first | (simp; done) | (simp; omega) | omega) ?_)
      case c1 => intro j u hu; (try rw [add_none]); exact ((bcell G).1 b (off + j) hbb).trans (hcc j u hu)
      case c2 => exact cts_one l
      case c3 => simp only [maxLen]; omega
      case c4 => omega
      intro v9 w9 own1 grow1 _
      (try simp only [Nat.zero_add, List.nil_append] at own1)
      obtain ⟨P9, c9, rfl⟩ := own_form own1
      obtain ⟨g9, rfl, hg9, _⟩ := own_at own1 hq0
      have K9 := K.grown grow1 (fun h => by have := (OW.lt _ h.symm).1; omega)
      have G9 := G.grown grow1 G.size (fun k hk => by have := (OW.lt k hk).1; omega)
      clear K G OW grow1
      have y1 : k9 * 2 < (cts l).length := by rw [cts_len]; omega
      have y2 : k9 * 2 + 1 < (cts l).length := by rw [cts_len]; omega
      have hc1 : w9.cell? ⟨g9, k9 * 2, none⟩ = some (cts l)[k9 * 2] := by rw [own1.cellAt (k9 * 2) (by omega)]; simp [y1]
      have hf1 := own1.frozenAt (k9 * 2)
      obtain ⟨ho1, hg1⟩ := own1.stored (k9 * 2) (.int .i64 x)
      have hc2 := ho1.cellAt (k9 * 2 + 1) (by omega)
      have hf2 := ho1.frozenAt (k9 * 2 + 1)
      rw [List.getElem?_set_ne (by omega), List.getElem?_eq_getElem y2] at hc2
      obtain ⟨ho2, hg2⟩ := ho1.stored (k9 * 2 + 1) (.int .i64 y)
      rw [cts_set2 l k9 x y hk9] at ho2
      have HO := Lib.hid ho2
      have HG1 := Lib.hid hg1
      have HG2 := Lib.hid hg2
      clear ho1 hg1 ho2 hg2
      have K2 := (K9.far (p := ⟨g9, k9 * 2, none⟩) (by simp; omega) (.int .i64 x)).far (p := ⟨g9, k9 * 2 + 1, none⟩) (by simp; omega) (.int .i64 y)
      have G2 := Below.setCell (p := ⟨g9, k9 * 2 + 1, none⟩) (Below.setCell (p := ⟨g9, k9 * 2, none⟩) G9 (by simp; omega) (.int .i64 x)) (by simp; omega) (.int .i64 y)
      clear K9 G9
      obtain ⟨k0, k1, k2, k3⟩ := blk4 K2
      go_wp2_with fail
      refine (l6Good_any (m := m) (hv'.on G2) (Rd.of_own HO.out) (by omega) (own_cap HO.out)).mono ?_
      rintro e w4 ⟨rfl, hb4⟩
      have O4 := own_below HO.out hb4
      have G4 := G2.trans (hb4.mono G2.size)
      cases hok2 : okCts m (l.set k9 ⟨x, y⟩)
      · have e9 : wcR m l k9 x y = [] := by unfold wcR; rw [hok2]; rfl
        have E9 := Lib.hid e9
        clear e9
        go_wp2_with fail
        go_ret2
        rw [E9.out, hok2]
        exact ⟨_, 0, rfl, World.ownsRow_lit _ #[] 0 G4.size (by simp) rfl, G4.alloc G4.size _⟩
      · have e9 : wcR m l k9 x y = l.set k9 ⟨x, y⟩ := by unfold wcR; rw [hok2]; rfl
        have E9 := Lib.hid e9
        clear e9
        go_wp2_with fail
        go_ret2
        rw [E9.out, hok2, HLS.out]
        exact ⟨_, c9, rfl, own_le O4 (by omega), G4⟩
    · have HOK := Lib.hid hok
      have e1 : mvOk m l x y = false := by unfold mvOk; rw [show decide (0 ≤ ixC l x) = false by simpa using h0]; simp
      have e2 : mvR m l x y = [] := by unfold mvR; rw [e1]; rfl
      rw [e1, e2]; clear e1 e2
      have h9 : decide (ixC l x < 0) = true := by simp; omega
      have h8 : ixC l x < 0 := by omega
      clear hok
      go_enter Try.func36, Try.ntmps36
      go_wp2_with fail
      refine (l6Find_any (hR.on G) hq).mono ?_
      rintro e w1 ⟨rfl, hb⟩
      replace K := K.on hb
      replace G := G.trans (hb.mono G.size)
      clear hb
      rw [show idxB (fun c => c.code == x) l 0 = ixC l x from rfl]
      obtain ⟨k0, k1, k2, k3⟩ := blk4 K
      go_wp2_with fail
      refine (l6Good_any (m := m) (hv'.on G) (hR.on G) hq hqc).mono ?_
      rintro e w2 ⟨rfl, hb⟩
      clear k0 k1 k2 k3
      replace K := K.on hb
      replace G := G.trans (hb.mono G.size)
      clear hb
      rw [HOK.out]
      obtain ⟨k0, k1, k2, k3⟩ := blk4 K
      go_wp2_with fail
      go_ret2
      exact ⟨_, 0, rfl, World.ownsRow_lit _ #[] 0 G.size (by simp) rfl, G.alloc G.size _⟩
end Go.Proofs.Ytcjggopdgkopiaa
