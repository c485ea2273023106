/- Contracts: NearestControl, the program's and the reference's. -/
import Derived.Test.YtcjggopdgkopiaaCtlFn
namespace Go.Proofs.Ytcjggopdgkopiaa
set_option linter.unusedVariables false
set_option linter.unusedSimpArgs false
open Go.RowKit
def cmpI (a b : Int) : Int := if a < b then -1 else if b < a then 1 else 0
def orI (a b : Int) : Int := if a = 0 then b else a
theorem isNaN_any (a : Int) (w : World) : Calls Try.prog 82 #[.int .i64 a] w fun e w' => e = .returned (.bool false) ∧ w = w' := by
  have h : (a != a) = false := by simp
  go_enter Try.func82, Try.ntmps82
  go_wp2_with fail
  go_ret
  exact ⟨rfl, rfl⟩
theorem Compare_any (a b : Int) (w : World) : Calls Try.prog 61 #[.int .i64 a, .int .i64 b] w fun e w' => e = .returned (.int .i64 (cmpI a b)) ∧ w = w' := by
  unfold cmpI
  by_cases h1 : a < b
  · rw [if_pos h1]
    go_enter Try.func61, Try.ntmps61
    go_wp2_with (go_at_call 82; refine (isNaN_any _ _).mono ?_; rintro e w' ⟨rfl, rfl⟩)
    go_ret
    exact ⟨rfl, rfl⟩
  · rw [if_neg h1]
    have h1' : decide (a < b) = false := by simpa using h1
    by_cases h2 : b < a
    · rw [if_pos h2]
      go_enter Try.func61, Try.ntmps61
      go_wp2_with (go_at_call 82; refine (isNaN_any _ _).mono ?_; rintro e w' ⟨rfl, rfl⟩)
      go_ret
      exact ⟨rfl, rfl⟩
    · rw [if_neg h2]
      have h2' : decide (b < a) = false := by simpa using h2
      go_enter Try.func61, Try.ntmps61
      go_wp2_with (go_at_call 82; refine (isNaN_any _ _).mono ?_; rintro e w' ⟨rfl, rfl⟩)
      go_ret
      exact ⟨rfl, rfl⟩
theorem Or_2 {A : Option Addr} {c : Nat} {a b : Int} {w : World} (hA : Rd w w.heap.size 1 A 2 (ints [a, b])) :
    Calls Try.prog 60 #[.slice A 2 c] w fun e w' => e = .returned (.int .i64 (orI a b)) ∧ Below w.heap.size w w' := by
  obtain ⟨y, oy, rfl, hyb, hyc⟩ := hA.int (show 0 < 2 by omega)
  have c0 : w.cell? ⟨y, oy + 0, none⟩ = some (.int .i64 a) := hyc 0 (by simp)
  have c1 : w.cell? ⟨y, oy + 1, none⟩ = some (.int .i64 b) := hyc 1 (by simp)
  rw [Nat.add_zero] at c0
  clear hyc
  unfold orI
  by_cases ha : a = 0
  · rw [if_pos ha]
    have ha1 : (a != 0) = false := by simp [ha]
    have HA := Lib.hid ha
    clear ha
    cases hb : b != 0
    · have HB : Hid (b = 0) := by show b = 0; simpa using hb
      go_enter Try.func60, Try.ntmps60
      go_wp2_with fail
      go_loopw [8] (fun i wr => ∃ j : Nat, j ≤ 2 ∧ i = .int .i64 j ∧ wr = w) (fun i _ => 2 - (intOf i).toNat)
      case atStart => exact ⟨0, by omega, rfl, by first | rfl | trivial⟩
      case round =>
        obtain ⟨j, hj, rfl, rfl⟩ := hrel
        rcases (show j = 0 ∨ j = 1 ∨ j = 2 by omega) with rfl | rfl | rfl
        · go_wp2_with fail
          go_roundw
          case rel => exact ⟨1, by omega, by go_num, by first | rfl | trivial⟩
          case measure => simp [intOf]
        · go_wp2_with fail
          go_roundw
          case rel => exact ⟨2, by omega, by go_num, by first | rfl | trivial⟩
          case measure => simp [intOf]
        · go_wp2_with fail
          go_ret
          exact ⟨ret_int (by rw [HB.out]), Below.refl _ _⟩
    · go_enter Try.func60, Try.ntmps60
      go_wp2_with fail
      go_loopw [8] (fun i wr => ∃ j : Nat, j ≤ 1 ∧ i = .int .i64 j ∧ wr = w) (fun i _ => 2 - (intOf i).toNat)
      case atStart => exact ⟨0, by omega, rfl, by first | rfl | trivial⟩
      case round =>
        obtain ⟨j, hj, rfl, rfl⟩ := hrel
        rcases (show j = 0 ∨ j = 1 by omega) with rfl | rfl
        · go_wp2_with fail
          go_roundw
          case rel => exact ⟨1, by omega, by go_num, by first | rfl | trivial⟩
          case measure => simp [intOf]
        · go_wp2_with fail
          go_ret
          exact ⟨rfl, Below.refl _ _⟩
  · rw [if_neg ha]
    have ha1 : (a != 0) = true := by simp [ha]
    go_enter Try.func60, Try.ntmps60
    go_wp2_with fail
    go_loopw [8] (fun i wr => ∃ j : Nat, j ≤ 0 ∧ i = .int .i64 j ∧ wr = w) (fun i _ => 2 - (intOf i).toNat)
    case atStart => exact ⟨0, by omega, rfl, by first | rfl | trivial⟩
    case round =>
      obtain ⟨j, hj, rfl, rfl⟩ := hrel
      rcases (show j = 0 by omega) with rfl
      go_wp2_with fail
      go_ret
      exact ⟨rfl, Below.refl _ _⟩
/-- What is asked of an order on the Controls of a list that is handed to the library. -/
def FnCmpL (P : Program) (g : Nat) (lb : Array Value) (f : Ct → Ct → Int) (l : List Ct) (w : World) : Prop :=
  ∀ x ∈ l, ∀ y ∈ l, ∀ (W : World), Below w.heap.size w W → Calls P g (#[.agg #[.int .i64 x.code, .int .i64 x.cell], .agg #[.int .i64 y.code, .int .i64 y.cell]] ++ lb) W fun e w' => e = .returned (.int .i64 (f x y)) ∧ Below W.heap.size W w'
/-- The least of the first k + 1 elements: its place. -/
def minN (f : Ct → Ct → Int) (l : List Ct) : Nat → Nat
  | 0 => 0
  | k + 1 => if f (l.getD (k + 1) default) (l.getD (minN f l k) default) < 0 then k + 1 else minN f l k
theorem minN_le (f : Ct → Ct → Int) (l : List Ct) : ∀ k, minN f l k ≤ k := by
  intro k
  induction k with
  | zero => simp [minN]
  | succ k ih => rw [minN]; split <;> omega
set_option maxHeartbeats 1000000 in
theorem MinFunc_ct (g : Nat) (lb : Array Value) (f : Ct → Ct → Int) (eg : ∀ args w, (callFunc g args).run Try.prog w = .ok (.enter g args) w) {A : Option Addr} {n c : Nat} {l : List Ct} {w : World} (hp : FnCmpL Try.prog g lb f l w) (hA : Rd w w.heap.size 2 A n (cts l)) (hn : n ≤ 1048576) (h0 : 0 < n) :
    Calls Try.prog 58 #[.slice A n c, .func (.func g) #[] lb] w fun e w' => e = .returned (.agg #[.int .i64 (l.getD (minN f l (n - 1)) default).code, .int .i64 (l.getD (minN f l (n - 1)) default).cell]) ∧ Below w.heap.size w w' := by
  have HX := Lib.hid hA.clen
  have HP := Lib.hid hp
  clear hp
  obtain ⟨b, off, rfl, hbb, hca⟩ := hA.ct h0
  have HCA := Lib.hid hca
  have c1 := (hca 0 (by have := HX.out; omega)).1
  have c2 := (hca 0 (by have := HX.out; omega)).2
  simp only [Nat.zero_mul, Nat.add_zero] at c1 c2
  have n1 : ¬ (n : Int) < 1 := by omega
  have n2 : decide ((n : Int) < 1) = false := by simp; omega
  clear hca
  go_enter Try.func58, Try.ntmps58
  go_wp2_with fail
  go_loopw [6] (fun i wr => ∃ j : Nat, 1 ≤ j ∧ j ≤ n ∧ i = .int .i64 j ∧ Blk wr w.heap.size 54 [.int .i64 0, .int .i64 0] ∧ Blk wr (w.heap.size + 1) 54 [.int .i64 (l.getD (minN f l (j - 1)) default).code, .int .i64 (l.getD (minN f l (j - 1)) default).cell] ∧ Below w.heap.size w wr) (fun i _ => n - (intOf i).toNat)
  case atStart =>
    refine ⟨1, Nat.le_refl _, h0, rfl, (Blk.new w 54 [.int .i64 0, .int .i64 0]).alloc _, ?_, (by repeat (first | exact Below.refl _ _ | refine below_drewN ?_ _ | refine Below.drew ?_ | refine Below.alloc ?_ (by first | omega | (simp; done) | (simp; omega)) _ | refine Below.setCell ?_ (by first | omega | (simp; done) | (simp; omega)) _))⟩
    have hl0 : 0 < l.length := by have := HX.out; omega
    have e : l.getD (minN f l (1 - 1)) default = l[0] := by simp [minN, List.getD, hl0]
    have := Blk.new (w.alloc (.cells #[.int .i64 0, .int .i64 0] 54)) 54 [.int .i64 l[0].code, .int .i64 l[0].cell]
    rw [e]
    simpa using this
  case round =>
    obtain ⟨j, hj1, hj, rfl, Z, C, G⟩ := hrel
    have z0 : wr.cell? ⟨w.heap.size, 0, none⟩ = some (.int .i64 0) := Z.cell 0
    have z1 : wr.cell? ⟨w.heap.size, 1, none⟩ = some (.int .i64 0) := Z.cell 1
    have y0 : wr.cell? ⟨w.heap.size + 1, 0, none⟩ = some (.int .i64 (l.getD (minN f l (j - 1)) default).code) := C.cell 0
    have y1 : wr.cell? ⟨w.heap.size + 1, 1, none⟩ = some (.int .i64 (l.getD (minN f l (j - 1)) default).cell) := C.cell 1
    by_cases hlt : j < n
    · have kx : j < l.length := by rw [HX.out]; exact hlt
      have CJ := HCA.out j kx
      have d1 := ((bcell G).1 b (off + j * 2) hbb).trans CJ.1
      have d2 := ((bcell G).1 b (off + j * 2 + 1) hbb).trans CJ.2
      have CJ9 := Lib.hid CJ
      have hmn : minN f l (j - 1) < l.length := by have := minN_le f l (j - 1); omega
      have hmem : l.getD (minN f l (j - 1)) default ∈ l := by rw [show l.getD (minN f l (j - 1)) default = l[minN f l (j - 1)] by simp [List.getD, hmn]]; exact List.getElem_mem hmn
      have HL := Lib.hid (fun (W : World) (hW : Below w.heap.size w W) => HP.out l[j] (List.getElem_mem kx) _ hmem W hW)
      have HS : Hid (minN f l j = if f l[j] (l.getD (minN f l (j - 1)) default) < 0 then j else minN f l (j - 1)) := by
        show _ = _
        obtain ⟨i, rfl⟩ : ∃ i, j = i + 1 := ⟨j - 1, by omega⟩
        rw [minN, show l.getD (i + 1) default = l[i + 1] by simp [List.getD, kx]]
        rfl
      generalize hmc : l.getD (minN f l (j - 1)) default = mc at *
      have HMC := Lib.hid hmc
      clear hmem hmn hmc CJ
      have fx0 := C.frozen 0
      have fx1 := C.frozen 1
      clear z0 z1 y0 y1 d1 d2 fx0 fx1
      by_cases hf : f l[j] mc < 0
      · have HN : Hid (minN f l (j + 1 - 1) = j) := by show _ = _; rw [Nat.add_sub_cancel, HS.out, if_pos hf]
        generalize f l[j] mc = fv at *
        go_wp2_with fail
        refine wp_region_held_drew (S := fun w' => Blk w' w.heap.size 54 [.int .i64 0, .int .i64 0] ∧ Blk w' (w.heap.size + 1) 54 [.int .i64 mc.code, .int .i64 mc.cell] ∧ Below w.heap.size w w') (by kernel_rfl) ?_ (fun hHeld => ?_)
        · (try dsimp only)
          first | exact ⟨Z.drew, C.drew, G.drew⟩ | exact ⟨hHeld.1.on hb6, hHeld.2.1.on hb6, hHeld.2.2.trans (hb6.mono hHeld.2.2.size)⟩ | exact hHeld
        refine rgTake (i := 0) (d := 20) (v := ?_) rfl rfl (by kernel_rfl) (by kernel_rfl) (by kernel_rfl) (fun _ _ _ h => h) (by rfl) ?_ (by assumption) ?_
        rotate_left
        · ((intro w hSw); (try dsimp only at hSw); go_simp; (try with_reducible rfl))
        try simp only [Act.put, List.setIfInBounds_toArray, List.set_cons_zero, List.set_cons_succ]
        refine rgTake (i := 1) (d := 21) (v := ?_) rfl rfl (by kernel_rfl) (by kernel_rfl) (by kernel_rfl) (fun _ _ _ h => h) (by rfl) ?_ (by assumption) ?_
        rotate_left
        · ((intro w hSw); (try dsimp only at hSw); go_simp; (try with_reducible rfl))
        try simp only [Act.put, List.setIfInBounds_toArray, List.set_cons_zero, List.set_cons_succ]
        refine rgTake (i := 2) (d := 22) (v := ?_) rfl rfl (by kernel_rfl) (by kernel_rfl) (by kernel_rfl) (fun _ _ _ h => h) (by rfl) ?_ (by assumption) ?_
        rotate_left
        · ((intro w hSw); (try dsimp only at hSw); go_simp; (try with_reducible rfl))
        try simp only [Act.put, List.setIfInBounds_toArray, List.set_cons_zero, List.set_cons_succ]
        refine rgTake (i := 3) (d := 23) (v := ?_) rfl rfl (by kernel_rfl) (by kernel_rfl) (by kernel_rfl) (fun _ _ _ h => h) (by rfl) ?_ (by assumption) ?_
        rotate_left
        · ((intro w hSw); (try dsimp only at hSw); go_simp; (try with_reducible rfl))
        try simp only [Act.put, List.setIfInBounds_toArray, List.set_cons_zero, List.set_cons_succ]
        refine rgTake (i := 4) (d := 24) (v := ?_) rfl rfl (by kernel_rfl) (by kernel_rfl) (by kernel_rfl) (fun _ _ _ h => h) (by rfl) ?_ (by assumption) ?_
        rotate_left
        · ((intro w hSw); (try dsimp only at hSw); (have y0 := hSw.2.1.cell 0; have y1 := hSw.2.1.cell 1; simp only [List.getElem?_cons_zero, List.getElem?_cons_succ] at y0 y1; have zc := ((bcell hSw.2.2).1 b (off + j * 2) hbb).trans CJ9.out.1; have zd := ((bcell hSw.2.2).1 b (off + j * 2 + 1) hbb).trans CJ9.out.2); go_simp; (try with_reducible rfl))
        try simp only [Act.put, List.setIfInBounds_toArray, List.set_cons_zero, List.set_cons_succ]
        refine rgTake (i := 5) (d := 25) (v := ?_) rfl rfl (by kernel_rfl) (by kernel_rfl) (by kernel_rfl) (fun _ _ _ h => h) (by rfl) ?_ (by assumption) ?_
        rotate_left
        · ((intro w hSw); (try dsimp only at hSw); (have y0 := hSw.2.1.cell 0; have y1 := hSw.2.1.cell 1; simp only [List.getElem?_cons_zero, List.getElem?_cons_succ] at y0 y1; have zc := ((bcell hSw.2.2).1 b (off + j * 2) hbb).trans CJ9.out.1; have zd := ((bcell hSw.2.2).1 b (off + j * 2 + 1) hbb).trans CJ9.out.2); go_simp; (try with_reducible rfl))
        try simp only [Act.put, List.setIfInBounds_toArray, List.set_cons_zero, List.set_cons_succ]
        refine wpAnyH_ready (rs := [6]) (by kernel_rfl) (by simp) ?_
        refine AllReadyH.cons rfl (fun K hK => ?_) AllReadyH.nil
        go_simp
        refine (HL.out _ hHeld.2.2).mono ?_; rintro e wy ⟨rfl, hb6⟩
        go_wp2_with fail
        refine hK.out _ _ ?_ (fun hHeld => ?_)
        · (try dsimp only)
          first | exact ⟨Z.drew, C.drew, G.drew⟩ | exact ⟨hHeld.1.on hb6, hHeld.2.1.on hb6, hHeld.2.2.trans (hb6.mono hHeld.2.2.size)⟩ | exact hHeld
        clear hK K
        try simp only [Act.put, List.setIfInBounds_toArray, List.set_cons_zero, List.set_cons_succ]
        refine rgTake (i := 7) (d := 27) (v := ?_) rfl rfl (by kernel_rfl) (by kernel_rfl) (by kernel_rfl) (fun _ _ _ h => h) (by rfl) ?_ (by assumption) ?_
        rotate_left
        · ((intro w hSw); (try dsimp only at hSw); go_simp; (try with_reducible rfl))
        try simp only [Act.put, List.setIfInBounds_toArray, List.set_cons_zero, List.set_cons_succ]
        refine wpAnyH_done (by kernel_rfl) ?_ _
        have C2 := hHeld.2.1
        have G2 := hHeld.2.2
        have y0 : wy.cell? ⟨w.heap.size + 1, 0, none⟩ = some (.int .i64 mc.code) := C2.cell 0
        have y1 : wy.cell? ⟨w.heap.size + 1, 1, none⟩ = some (.int .i64 mc.cell) := C2.cell 1
        have fx0 := C2.frozen 0
        have fx1 := C2.frozen 1
        have d1 := ((bcell G2).1 b (off + j * 2) hbb).trans CJ9.out.1
        have d2 := ((bcell G2).1 b (off + j * 2 + 1) hbb).trans CJ9.out.2
        go_wp2_with fail
        go_roundw
        case rel => exact ⟨j + 1, by omega, by omega, by go_num, (hHeld.1.far (by simp) _).far (by simp) _, by rw [HN.out, show l.getD j default = l[j] by simp [List.getD, kx]]; exact (C2.set_ 0 _).set_ 1 _, Below.setCell (Below.setCell G2 (by simp) _) (by simp) _⟩
        case measure => simp [intOf]; omega
      · have HN : Hid (minN f l (j + 1 - 1) = minN f l (j - 1)) := by show _ = _; rw [Nat.add_sub_cancel, HS.out, if_neg hf]
        have hfd : decide (f l[j] mc < 0) = false := by simpa using hf
        generalize f l[j] mc = fv at *
        go_wp2_with fail
        refine wp_region_held_drew (S := fun w' => Blk w' w.heap.size 54 [.int .i64 0, .int .i64 0] ∧ Blk w' (w.heap.size + 1) 54 [.int .i64 mc.code, .int .i64 mc.cell] ∧ Below w.heap.size w w') (by kernel_rfl) ?_ (fun hHeld => ?_)
        · (try dsimp only)
          first | exact ⟨Z.drew, C.drew, G.drew⟩ | exact ⟨hHeld.1.on hb6, hHeld.2.1.on hb6, hHeld.2.2.trans (hb6.mono hHeld.2.2.size)⟩ | exact hHeld
        refine rgTake (i := 0) (d := 20) (v := ?_) rfl rfl (by kernel_rfl) (by kernel_rfl) (by kernel_rfl) (fun _ _ _ h => h) (by rfl) ?_ (by assumption) ?_
        rotate_left
        · ((intro w hSw); (try dsimp only at hSw); go_simp; (try with_reducible rfl))
        try simp only [Act.put, List.setIfInBounds_toArray, List.set_cons_zero, List.set_cons_succ]
        refine rgTake (i := 1) (d := 21) (v := ?_) rfl rfl (by kernel_rfl) (by kernel_rfl) (by kernel_rfl) (fun _ _ _ h => h) (by rfl) ?_ (by assumption) ?_
        rotate_left
        · ((intro w hSw); (try dsimp only at hSw); go_simp; (try with_reducible rfl))
        try simp only [Act.put, List.setIfInBounds_toArray, List.set_cons_zero, List.set_cons_succ]
        refine rgTake (i := 2) (d := 22) (v := ?_) rfl rfl (by kernel_rfl) (by kernel_rfl) (by kernel_rfl) (fun _ _ _ h => h) (by rfl) ?_ (by assumption) ?_
        rotate_left
        · ((intro w hSw); (try dsimp only at hSw); go_simp; (try with_reducible rfl))
        try simp only [Act.put, List.setIfInBounds_toArray, List.set_cons_zero, List.set_cons_succ]
        refine rgTake (i := 3) (d := 23) (v := ?_) rfl rfl (by kernel_rfl) (by kernel_rfl) (by kernel_rfl) (fun _ _ _ h => h) (by rfl) ?_ (by assumption) ?_
        rotate_left
        · ((intro w hSw); (try dsimp only at hSw); go_simp; (try with_reducible rfl))
        try simp only [Act.put, List.setIfInBounds_toArray, List.set_cons_zero, List.set_cons_succ]
        refine rgTake (i := 4) (d := 24) (v := ?_) rfl rfl (by kernel_rfl) (by kernel_rfl) (by kernel_rfl) (fun _ _ _ h => h) (by rfl) ?_ (by assumption) ?_
        rotate_left
        · ((intro w hSw); (try dsimp only at hSw); (have y0 := hSw.2.1.cell 0; have y1 := hSw.2.1.cell 1; simp only [List.getElem?_cons_zero, List.getElem?_cons_succ] at y0 y1; have zc := ((bcell hSw.2.2).1 b (off + j * 2) hbb).trans CJ9.out.1; have zd := ((bcell hSw.2.2).1 b (off + j * 2 + 1) hbb).trans CJ9.out.2); go_simp; (try with_reducible rfl))
        try simp only [Act.put, List.setIfInBounds_toArray, List.set_cons_zero, List.set_cons_succ]
        refine rgTake (i := 5) (d := 25) (v := ?_) rfl rfl (by kernel_rfl) (by kernel_rfl) (by kernel_rfl) (fun _ _ _ h => h) (by rfl) ?_ (by assumption) ?_
        rotate_left
        · ((intro w hSw); (try dsimp only at hSw); (have y0 := hSw.2.1.cell 0; have y1 := hSw.2.1.cell 1; simp only [List.getElem?_cons_zero, List.getElem?_cons_succ] at y0 y1; have zc := ((bcell hSw.2.2).1 b (off + j * 2) hbb).trans CJ9.out.1; have zd := ((bcell hSw.2.2).1 b (off + j * 2 + 1) hbb).trans CJ9.out.2); go_simp; (try with_reducible rfl))
        try simp only [Act.put, List.setIfInBounds_toArray, List.set_cons_zero, List.set_cons_succ]
        refine wpAnyH_ready (rs := [6]) (by kernel_rfl) (by simp) ?_
        refine AllReadyH.cons rfl (fun K hK => ?_) AllReadyH.nil
        go_simp
        refine (HL.out _ hHeld.2.2).mono ?_; rintro e wy ⟨rfl, hb6⟩
        go_wp2_with fail
        refine hK.out _ _ ?_ (fun hHeld => ?_)
        · (try dsimp only)
          first | exact ⟨Z.drew, C.drew, G.drew⟩ | exact ⟨hHeld.1.on hb6, hHeld.2.1.on hb6, hHeld.2.2.trans (hb6.mono hHeld.2.2.size)⟩ | exact hHeld
        clear hK K
        try simp only [Act.put, List.setIfInBounds_toArray, List.set_cons_zero, List.set_cons_succ]
        refine rgTake (i := 7) (d := 27) (v := ?_) rfl rfl (by kernel_rfl) (by kernel_rfl) (by kernel_rfl) (fun _ _ _ h => h) (by rfl) ?_ (by assumption) ?_
        rotate_left
        · ((intro w hSw); (try dsimp only at hSw); go_simp; (try with_reducible rfl))
        try simp only [Act.put, List.setIfInBounds_toArray, List.set_cons_zero, List.set_cons_succ]
        refine wpAnyH_done (by kernel_rfl) ?_ _
        go_wp2_with fail
        go_roundw
        case rel => exact ⟨j + 1, by omega, by omega, by go_num, hHeld.1, by rw [HN.out, HMC.out]; exact hHeld.2.1, hHeld.2.2⟩
        case measure => simp [intOf]; omega
    · have hjn : j = n := by omega
      have f0 := Z.frozen 0
      have f1 := Z.frozen 1
      have HJ := Lib.hid hjn
      clear hjn
      obtain ⟨mc, hmc⟩ : ∃ mc, mc = l.getD (minN f l (j - 1)) default := ⟨_, rfl⟩
      rw [← hmc] at C y0 y1
      have HMC := Lib.hid hmc
      clear hmc
      have Z2 := (Z.set_ 0 (.int .i64 mc.code)).set_ 1 (.int .i64 mc.cell)
      have q0 := Z2.cell 0
      have q1 := Z2.cell 1
      simp only [List.set_cons_zero, List.set_cons_succ, List.getElem?_cons_zero, List.getElem?_cons_succ] at q0 q1
      go_wp2_with fail
      refine bodyPost_ret (v := .agg #[.int .i64 mc.code, .int .i64 mc.cell]) (by simp [results, Try.results58, go_sem, q0, q1]) rfl ⟨by rw [← HJ.out, ← HMC.out], Below.setCell (Below.setCell G (by simp) _) (by simp) _⟩
def nrF (m : Mp) (x : Int) (a b : Ct) : Int := orI (cmpI (gapV m.wd a.cell x) (gapV m.wd b.cell x)) (cmpI a.code b.code)
theorem ctOk_bd {m : Mp} {l : List Ct} (V : Valid m) (h : ∀ i, i < l.length → ctOk m l i = true) : ∀ c ∈ l, 0 ≤ c.cell ∧ c.cell < 1000 := by
  intro c hc
  obtain ⟨i, hi, rfl⟩ := List.mem_iff_getElem.1 hc
  have := inM_iff.1 (ctOk_in hi (h i hi))
  have := V.n36
  omega
set_option maxRecDepth 100000 in
set_option maxHeartbeats 2000000 in
theorem Nearest1 {m : Mp} {l : List Ct} {x : Int} {A B : Option Addr} {n cp k d g g2 : Nat} {w : World} (V : Valid m) (hl : ∀ c ∈ l, 0 ≤ c.cell ∧ c.cell < 1000) (h1 : 0 ≤ x) (h2 : x < 1000) (hv : MapIn w m (.agg #[.int .i64 m.wd, .int .i64 m.ht, .slice A n cp, .slice B k d]))
    (K : Blk w g 29 [.int .i64 m.wd, .int .i64 m.ht, .slice A n cp, .slice B k d]) (C : Blk w g2 3 [.int .i64 x]) :
    FnCmpL Try.prog 59 #[.pointer (some ⟨g, 0, none⟩), .pointer (some ⟨g2, 0, none⟩)] (nrF m x) l w := by
  intro a ha b hb W hbe
  obtain ⟨a1, a2⟩ := hl a ha
  obtain ⟨b1, b2⟩ := hl b hb
  have K0 := K.on hbe
  have C0 := C.on hbe
  have hv0 := hv.on hbe
  have w1 := V.w1
  have w6 := V.w6
  have BA := Blk.new W 54 [.int .i64 a.code, .int .i64 a.cell]
  have KA := K0.lt
  have KC := C0.lt
  have hsz : (W.alloc (.cells #[.int .i64 a.code, .int .i64 a.cell] 54)).heap.size = W.heap.size + 1 := by simp
  have BB0 := Blk.new (W.alloc (.cells #[.int .i64 a.code, .int .i64 a.cell] 54)) 54 [.int .i64 b.code, .int .i64 b.cell]
  rw [hsz] at BB0
  have G0 : Below W.heap.size W ((W.alloc (.cells #[.int .i64 a.code, .int .i64 a.cell] 54)).alloc (.cells #[.int .i64 b.code, .int .i64 b.cell] 54)) := (by repeat (first | exact Below.refl _ _ | refine below_drewN ?_ _ | refine Below.drew ?_ | refine Below.alloc ?_ (by first | omega | (simp; done) | (simp; omega)) _ | refine Below.setCell ?_ (by first | omega | (simp; done) | (simp; omega)) _))
  go_enter Try.func59, Try.ntmps59
  go_wp2_with fail
  refine wp_region_held_drew (S := fun w' => Blk w' g 29 [.int .i64 m.wd, .int .i64 m.ht, .slice A n cp, .slice B k d] ∧ Blk w' g2 3 [.int .i64 x] ∧ Blk w' W.heap.size 54 [.int .i64 a.code, .int .i64 a.cell] ∧ Blk w' (W.heap.size + 1) 54 [.int .i64 b.code, .int .i64 b.cell] ∧ Below W.heap.size W w') (by kernel_rfl) ?_ (fun hHeld => ?_)
  · (try dsimp only)
    first | exact ⟨((K0.alloc _).alloc _).drew, ((C0.alloc _).alloc _).drew, (BA.alloc _).drew, BB0.drew, G0.drew⟩ | exact ⟨hHeld.1.on hb6, hHeld.2.1.on hb6, hHeld.2.2.1.on hb6, hHeld.2.2.2.1.on hb6, hHeld.2.2.2.2.trans (hb6.mono hHeld.2.2.2.2.size)⟩ | exact hHeld
  refine rgTake (i := 0) (d := 7) (v := ?_) rfl rfl (by kernel_rfl) (by kernel_rfl) (by kernel_rfl) (fun _ _ _ h => h) (by rfl) ?_ (by assumption) ?_
  rotate_left
  · ((intro w hSw); (try dsimp only at hSw); (obtain ⟨z0, z1, z2, z3⟩ := blk4 hSw.1; have y0 := hSw.2.1.cell 0; have y1 := hSw.2.2.1.cell 0; have y2 := hSw.2.2.1.cell 1; have y3 := hSw.2.2.2.1.cell 0; have y4 := hSw.2.2.2.1.cell 1; simp only [List.getElem?_cons_zero, List.getElem?_cons_succ] at y0 y1 y2 y3 y4); go_simp; (try with_reducible rfl))
  try simp only [Act.put, List.setIfInBounds_toArray, List.set_cons_zero, List.set_cons_succ]
  refine rgTake (i := 1) (d := 8) (v := ?_) rfl rfl (by kernel_rfl) (by kernel_rfl) (by kernel_rfl) (fun _ _ _ h => h) (by rfl) ?_ (by assumption) ?_
  rotate_left
  · ((intro w hSw); (try dsimp only at hSw); go_simp; (try with_reducible rfl))
  try simp only [Act.put, List.setIfInBounds_toArray, List.set_cons_zero, List.set_cons_succ]
  refine rgTake (i := 2) (d := 9) (v := ?_) rfl rfl (by kernel_rfl) (by kernel_rfl) (by kernel_rfl) (fun _ _ _ h => h) (by rfl) ?_ (by assumption) ?_
  rotate_left
  · ((intro w hSw); (try dsimp only at hSw); (obtain ⟨z0, z1, z2, z3⟩ := blk4 hSw.1; have y0 := hSw.2.1.cell 0; have y1 := hSw.2.2.1.cell 0; have y2 := hSw.2.2.1.cell 1; have y3 := hSw.2.2.2.1.cell 0; have y4 := hSw.2.2.2.1.cell 1; simp only [List.getElem?_cons_zero, List.getElem?_cons_succ] at y0 y1 y2 y3 y4); go_simp; (try with_reducible rfl))
  try simp only [Act.put, List.setIfInBounds_toArray, List.set_cons_zero, List.set_cons_succ]
  refine rgTake (i := 3) (d := 10) (v := ?_) rfl rfl (by kernel_rfl) (by kernel_rfl) (by kernel_rfl) (fun _ _ _ h => h) (by rfl) ?_ (by assumption) ?_
  rotate_left
  · ((intro w hSw); (try dsimp only at hSw); (obtain ⟨z0, z1, z2, z3⟩ := blk4 hSw.1; have y0 := hSw.2.1.cell 0; have y1 := hSw.2.2.1.cell 0; have y2 := hSw.2.2.1.cell 1; have y3 := hSw.2.2.2.1.cell 0; have y4 := hSw.2.2.2.1.cell 1; simp only [List.getElem?_cons_zero, List.getElem?_cons_succ] at y0 y1 y2 y3 y4); go_simp; (try with_reducible rfl))
  try simp only [Act.put, List.setIfInBounds_toArray, List.set_cons_zero, List.set_cons_succ]
  refine rgTake (i := 5) (d := 12) (v := ?_) rfl rfl (by kernel_rfl) (by kernel_rfl) (by kernel_rfl) (fun _ _ _ h => h) (by rfl) ?_ (by assumption) ?_
  rotate_left
  · ((intro w hSw); (try dsimp only at hSw); (obtain ⟨z0, z1, z2, z3⟩ := blk4 hSw.1; have y0 := hSw.2.1.cell 0; have y1 := hSw.2.2.1.cell 0; have y2 := hSw.2.2.1.cell 1; have y3 := hSw.2.2.2.1.cell 0; have y4 := hSw.2.2.2.1.cell 1; simp only [List.getElem?_cons_zero, List.getElem?_cons_succ] at y0 y1 y2 y3 y4); go_simp; (try with_reducible rfl))
  try simp only [Act.put, List.setIfInBounds_toArray, List.set_cons_zero, List.set_cons_succ]
  refine rgTake (i := 6) (d := 13) (v := ?_) rfl rfl (by kernel_rfl) (by kernel_rfl) (by kernel_rfl) (fun _ _ _ h => h) (by rfl) ?_ (by assumption) ?_
  rotate_left
  · ((intro w hSw); (try dsimp only at hSw); go_simp; (try with_reducible rfl))
  try simp only [Act.put, List.setIfInBounds_toArray, List.set_cons_zero, List.set_cons_succ]
  refine rgTake (i := 7) (d := 14) (v := ?_) rfl rfl (by kernel_rfl) (by kernel_rfl) (by kernel_rfl) (fun _ _ _ h => h) (by rfl) ?_ (by assumption) ?_
  rotate_left
  · ((intro w hSw); (try dsimp only at hSw); (obtain ⟨z0, z1, z2, z3⟩ := blk4 hSw.1; have y0 := hSw.2.1.cell 0; have y1 := hSw.2.2.1.cell 0; have y2 := hSw.2.2.1.cell 1; have y3 := hSw.2.2.2.1.cell 0; have y4 := hSw.2.2.2.1.cell 1; simp only [List.getElem?_cons_zero, List.getElem?_cons_succ] at y0 y1 y2 y3 y4); go_simp; (try with_reducible rfl))
  try simp only [Act.put, List.setIfInBounds_toArray, List.set_cons_zero, List.set_cons_succ]
  refine rgTake (i := 8) (d := 15) (v := ?_) rfl rfl (by kernel_rfl) (by kernel_rfl) (by kernel_rfl) (fun _ _ _ h => h) (by rfl) ?_ (by assumption) ?_
  rotate_left
  · ((intro w hSw); (try dsimp only at hSw); (obtain ⟨z0, z1, z2, z3⟩ := blk4 hSw.1; have y0 := hSw.2.1.cell 0; have y1 := hSw.2.2.1.cell 0; have y2 := hSw.2.2.1.cell 1; have y3 := hSw.2.2.2.1.cell 0; have y4 := hSw.2.2.2.1.cell 1; simp only [List.getElem?_cons_zero, List.getElem?_cons_succ] at y0 y1 y2 y3 y4); go_simp; (try with_reducible rfl))
  try simp only [Act.put, List.setIfInBounds_toArray, List.set_cons_zero, List.set_cons_succ]
  refine rgTake (i := 11) (d := 18) (v := ?_) rfl rfl (by kernel_rfl) (by kernel_rfl) (by kernel_rfl) (fun _ _ _ h => h) (by rfl) ?_ (by assumption) ?_
  rotate_left
  · ((intro w hSw); (try dsimp only at hSw); go_simp; (try with_reducible rfl))
  try simp only [Act.put, List.setIfInBounds_toArray, List.set_cons_zero, List.set_cons_succ]
  refine rgTake (i := 12) (d := 19) (v := ?_) rfl rfl (by kernel_rfl) (by kernel_rfl) (by kernel_rfl) (fun _ _ _ h => h) (by rfl) ?_ (by assumption) ?_
  rotate_left
  · ((intro w hSw); (try dsimp only at hSw); (obtain ⟨z0, z1, z2, z3⟩ := blk4 hSw.1; have y0 := hSw.2.1.cell 0; have y1 := hSw.2.2.1.cell 0; have y2 := hSw.2.2.1.cell 1; have y3 := hSw.2.2.2.1.cell 0; have y4 := hSw.2.2.2.1.cell 1; simp only [List.getElem?_cons_zero, List.getElem?_cons_succ] at y0 y1 y2 y3 y4); go_simp; (try with_reducible rfl))
  try simp only [Act.put, List.setIfInBounds_toArray, List.set_cons_zero, List.set_cons_succ]
  refine rgTake (i := 13) (d := 20) (v := ?_) rfl rfl (by kernel_rfl) (by kernel_rfl) (by kernel_rfl) (fun _ _ _ h => h) (by rfl) ?_ (by assumption) ?_
  rotate_left
  · ((intro w hSw); (try dsimp only at hSw); go_simp; (try with_reducible rfl))
  try simp only [Act.put, List.setIfInBounds_toArray, List.set_cons_zero, List.set_cons_succ]
  refine rgTake (i := 14) (d := 21) (v := ?_) rfl rfl (by kernel_rfl) (by kernel_rfl) (by kernel_rfl) (fun _ _ _ h => h) (by rfl) ?_ (by assumption) ?_
  rotate_left
  · ((intro w hSw); (try dsimp only at hSw); (obtain ⟨z0, z1, z2, z3⟩ := blk4 hSw.1; have y0 := hSw.2.1.cell 0; have y1 := hSw.2.2.1.cell 0; have y2 := hSw.2.2.1.cell 1; have y3 := hSw.2.2.2.1.cell 0; have y4 := hSw.2.2.2.1.cell 1; simp only [List.getElem?_cons_zero, List.getElem?_cons_succ] at y0 y1 y2 y3 y4); go_simp; (try with_reducible rfl))
  try simp only [Act.put, List.setIfInBounds_toArray, List.set_cons_zero, List.set_cons_succ]
  refine wpAnyH_ready (rs := [4]) (by kernel_rfl) (by simp) ?_
  refine AllReadyH.cons rfl (fun K hK => ?_) AllReadyH.nil
  go_simp
  refine (gapOf_any (m := m) (hv0.on hHeld.2.2.2.2) w1 w6 a1 a2 h1 h2).mono ?_; rintro e wy ⟨rfl, hb6⟩
  go_wp2_with fail
  refine hK.out _ _ ?_ (fun hHeld => ?_)
  · (try dsimp only)
    first | exact ⟨((K0.alloc _).alloc _).drew, ((C0.alloc _).alloc _).drew, (BA.alloc _).drew, BB0.drew, G0.drew⟩ | exact ⟨hHeld.1.on hb6, hHeld.2.1.on hb6, hHeld.2.2.1.on hb6, hHeld.2.2.2.1.on hb6, hHeld.2.2.2.2.trans (hb6.mono hHeld.2.2.2.2.size)⟩ | exact hHeld
  clear hK K
  try simp only [Act.put, List.setIfInBounds_toArray, List.set_cons_zero, List.set_cons_succ]
  refine wpAnyH_ready (rs := [9]) (by kernel_rfl) (by simp) ?_
  refine AllReadyH.cons rfl (fun K hK => ?_) AllReadyH.nil
  go_simp
  refine (gapOf_any (m := m) (hv0.on hHeld.2.2.2.2) w1 w6 b1 b2 h1 h2).mono ?_; rintro e wy ⟨rfl, hb6⟩
  go_wp2_with fail
  refine hK.out _ _ ?_ (fun hHeld => ?_)
  · (try dsimp only)
    first | exact ⟨((K0.alloc _).alloc _).drew, ((C0.alloc _).alloc _).drew, (BA.alloc _).drew, BB0.drew, G0.drew⟩ | exact ⟨hHeld.1.on hb6, hHeld.2.1.on hb6, hHeld.2.2.1.on hb6, hHeld.2.2.2.1.on hb6, hHeld.2.2.2.2.trans (hb6.mono hHeld.2.2.2.2.size)⟩ | exact hHeld
  clear hK K
  try simp only [Act.put, List.setIfInBounds_toArray, List.set_cons_zero, List.set_cons_succ]
  refine wpAnyH_ready (rs := [10]) (by kernel_rfl) (by simp) ?_
  refine AllReadyH.cons rfl (fun K hK => ?_) AllReadyH.nil
  go_simp
  refine (Compare_any _ _ _).mono ?_; rintro e wy' ⟨rfl, rfl⟩
  go_wp2_with fail
  refine hK.out _ _ ?_ (fun hHeld => ?_)
  · (try dsimp only)
    exact hHeld
  clear hK K
  try simp only [Act.put, List.setIfInBounds_toArray, List.set_cons_zero, List.set_cons_succ]
  refine wpAnyH_ready (rs := [15]) (by kernel_rfl) (by simp) ?_
  refine AllReadyH.cons rfl (fun K hK => ?_) AllReadyH.nil
  go_simp
  refine (Compare_any _ _ _).mono ?_; rintro e wy' ⟨rfl, rfl⟩
  go_wp2_with fail
  refine hK.out _ _ ?_ (fun hHeld => ?_)
  · (try dsimp only)
    exact hHeld
  clear hK K
  try simp only [Act.put, List.setIfInBounds_toArray, List.set_cons_zero, List.set_cons_succ]
  refine wpAnyH_ready (rs := [16]) (by kernel_rfl) (by simp) ?_
  refine AllReadyH.cons rfl (fun K hK => ?_) AllReadyH.nil
  go_simp
  refine hK.out _ _ ?_ (fun hHeld => ?_)
  · (try dsimp only)
    exact ⟨hHeld.1.alloc _, hHeld.2.1.alloc _, hHeld.2.2.1.alloc _, hHeld.2.2.2.1.alloc _, hHeld.2.2.2.2.alloc hHeld.2.2.2.2.size _⟩
  clear hK K
  try simp only [Act.put, List.setIfInBounds_toArray, List.set_cons_zero, List.set_cons_succ]
  refine wpAnyH_ready (rs := [17]) (by kernel_rfl) (by simp) ?_
  refine AllReadyH.cons rfl (fun K hK => ?_) AllReadyH.nil
  go_simp
  refine (Or_2 ((Blk.new _ 3 (ints [cmpI (gapV m.wd a.cell x) (gapV m.wd b.cell x), cmpI a.code b.code])).rd (size := 1) (n := 2) rfl)).mono ?_; rintro e wy ⟨rfl, hb6⟩
  go_wp2_with fail
  refine hK.out _ _ ?_ (fun hHeld => ?_)
  · (try dsimp only)
    first | exact ⟨((K0.alloc _).alloc _).drew, ((C0.alloc _).alloc _).drew, (BA.alloc _).drew, BB0.drew, G0.drew⟩ | exact ⟨hHeld.1.on hb6, hHeld.2.1.on hb6, hHeld.2.2.1.on hb6, hHeld.2.2.2.1.on hb6, hHeld.2.2.2.2.trans (hb6.mono hHeld.2.2.2.2.size)⟩ | exact hHeld
  clear hK K
  try simp only [Act.put, List.setIfInBounds_toArray, List.set_cons_zero, List.set_cons_succ]
  refine rgTake (i := 18) (d := 6) (v := ?_) rfl rfl (by kernel_rfl) (by kernel_rfl) (by kernel_rfl) (fun _ _ _ h => h) (by rfl) ?_ (by assumption) ?_
  rotate_left
  · ((intro w hSw); (try dsimp only at hSw); go_simp; (try with_reducible rfl))
  try simp only [Act.put, List.setIfInBounds_toArray, List.set_cons_zero, List.set_cons_succ]
  refine wpAnyH_done (by kernel_rfl) ?_ _
  go_wp2_with fail
  go_ret
  exact ⟨rfl, hHeld.2.2.2.2⟩
end Go.Proofs.Ytcjggopdgkopiaa
