/- Slices of Controls: where their cells lie; contracts of the law's helpers over them. -/
import Derived.Test.YtcjggopdgkopiaaOpenControl
import Derived.Test.YtcjggopdgkopiaaCh
import Derived.Test.YtcjggopdgkopiaaMp
import Derived.Test.YtcjggopdgkopiaaRg
namespace Go.Proofs.Ytcjggopdgkopiaa
set_option linter.unusedVariables false
set_option linter.unusedSimpArgs false
open Go.RowKit
def cts (l : List Ct) : List Value := l.flatMap Ct.cells
theorem cts_len (l : List Ct) : (cts l).length = l.length * 2 := flatMap_len (s := 2) (fun _ => rfl) l
theorem cts_get {l : List Ct} {j : Nat} (hj : j < l.length) : (cts l)[j * 2]? = some (.int .i64 l[j].code) ∧ (cts l)[j * 2 + 1]? = some (.int .i64 l[j].cell) :=
  ⟨flatMap_get (s := 2) (fun _ => rfl) l j 0 hj (by omega), flatMap_get (s := 2) (fun _ => rfl) l j 1 hj (by omega)⟩
theorem Rd.clen {w : World} {B n : Nat} {A : Option Addr} {l : List Ct} (h : Rd w B 2 A n (cts l)) : l.length = n := by
  have h1 := h.1
  rw [cts_len] at h1
  omega
theorem Rd.ct {w : World} {B n : Nat} {A : Option Addr} {l : List Ct} (h : Rd w B 2 A n (cts l)) (hn : 0 < n) :
    ∃ b off, A = some ⟨b, off, none⟩ ∧ b < B ∧ ∀ (j : Nat) (hj : j < l.length), w.cell? ⟨b, off + j * 2, none⟩ = some (.int .i64 l[j].code) ∧ w.cell? ⟨b, off + j * 2 + 1, none⟩ = some (.int .i64 l[j].cell) := by
  obtain ⟨b, off, e, hb, hc⟩ := h.2 hn
  exact ⟨b, off, e, hb, fun j hj => ⟨hc _ _ (cts_get hj).1, by have := hc _ _ (cts_get hj).2; rwa [← Nat.add_assoc] at this⟩⟩
theorem Rd.takec {w : World} {B q j : Nat} {A : Option Addr} {l : List Ct} (h : Rd w B 2 A q (cts l)) (hj : j ≤ q) : Rd w B 2 A j (cts (l.take j)) := by
  have hl := h.clen
  refine ⟨by rw [cts_len, List.length_take, Nat.min_eq_left (by omega)], fun h0 => ?_⟩
  obtain ⟨b, off, e, hb, hc⟩ := h.2 (by omega)
  refine ⟨b, off, e, hb, fun k u hu => hc k u ?_⟩
  have : cts l = cts (l.take j) ++ cts (l.drop j) := by unfold cts; rw [← List.flatMap_append, List.take_append_drop]
  rw [this, List.getElem?_append_left (List.getElem?_eq_some_iff.1 hu).1]
  exact hu
theorem szControlS_any (A : Option Addr) (n c : Nat) (left : Int) (w : World) (hl : 0 ≤ left) (hl' : left ≤ 1048576) (hn : n ≤ maxLen) :
    Calls Try.prog 12 #[.slice A n c, .int .i64 left] w fun e w' => e = .returned (.int .i64 (if left < n then -1 else left - n)) ∧ w = w' := by
  unfold maxLen at hn
  by_cases h : left < n
  · rw [if_pos h]
    go_enter Try.func12, Try.ntmps12
    go_wp2
    go_ret
    exact ⟨rfl, rfl⟩
  · rw [if_neg h]
    go_enter Try.func12, Try.ntmps12
    go_wp2
    go_ret
    exact ⟨rfl, rfl⟩
theorem toControl_any (x : Ct) (w : World) : Calls Try.prog 42 #[.agg #[.int .i64 x.code, .int .i64 x.cell]] w fun e w' => e = .returned (.agg #[.int .i64 x.code, .int .i64 x.cell]) ∧ Below w.heap.size w w' := by
  go_enter Try.func42, Try.ntmps42
  go_wp2_with fail
  refine bodyPost_ret (v := .agg #[.int .i64 x.code, .int .i64 x.cell]) (by simp [results, Try.results42, go_sem]) rfl ⟨rfl, ?_⟩
  exact (by repeat (first | exact Below.refl _ _ | refine below_drewN ?_ _ | refine Below.drew ?_ | refine Below.alloc ?_ (by first | omega | (simp; done) | (simp; omega)) _ | refine Below.setCell ?_ (by first | omega | (simp; done) | (simp; omega)) _))
theorem eqControl_any (x y : Ct) (w : World) : Calls Try.prog 48 #[.agg #[.int .i64 x.code, .int .i64 x.cell], .agg #[.int .i64 y.code, .int .i64 y.cell]] w fun e w' => e = .returned (.bool (x.code == y.code && x.cell == y.cell)) ∧ Below w.heap.size w w' := by
  cases h1 : x.code == y.code
  · have h1' : (x.code != y.code) = true := by simp [bne, h1]
    have H1 := Lib.hid h1
    clear h1
    go_enter Try.func48, Try.ntmps48
    go_wp2_with fail
    go_ret
    exact ⟨by simp, (by repeat (first | exact Below.refl _ _ | refine below_drewN ?_ _ | refine Below.drew ?_ | refine Below.alloc ?_ (by first | omega | (simp; done) | (simp; omega)) _ | refine Below.setCell ?_ (by first | omega | (simp; done) | (simp; omega)) _))⟩
  · have h1' : (x.code != y.code) = false := by simp [bne, h1]
    cases h2 : x.cell == y.cell
    · have h2' : (x.cell != y.cell) = true := by simp [bne, h2]
      clear h1 h2
      go_enter Try.func48, Try.ntmps48
      go_wp2_with fail
      go_ret
      exact ⟨by simp, (by repeat (first | exact Below.refl _ _ | refine below_drewN ?_ _ | refine Below.drew ?_ | refine Below.alloc ?_ (by first | omega | (simp; done) | (simp; omega)) _ | refine Below.setCell ?_ (by first | omega | (simp; done) | (simp; omega)) _))⟩
    · have h2' : (x.cell != y.cell) = false := by simp [bne, h2]
      clear h1 h2
      go_enter Try.func48, Try.ntmps48
      go_wp2_with fail
      go_ret
      exact ⟨by simp, (by repeat (first | exact Below.refl _ _ | refine below_drewN ?_ _ | refine Below.drew ?_ | refine Below.alloc ?_ (by first | omega | (simp; done) | (simp; omega)) _ | refine Below.setCell ?_ (by first | omega | (simp; done) | (simp; omega)) _))⟩
/-- A block of n Controls, of which the first j are right. -/
theorem cts_set {l : List Ct} {cs : List Value} {j : Nat} (hc : cs.length = l.length * 2) (hj : j < l.length) (ht : cs.take (j * 2) = (cts l).take (j * 2)) :
    ((cs.set (j * 2) (.int .i64 l[j].code)).set (j * 2 + 1) (.int .i64 l[j].cell)).take ((j + 1) * 2) = (cts l).take ((j + 1) * 2) := by
  have hl := cts_len l
  have e1 : (cts l)[j * 2]'(by omega) = .int .i64 l[j].code := by have := (cts_get hj).1; rw [List.getElem?_eq_getElem (by omega)] at this; exact Option.some.inj this
  have e2 : (cts l)[j * 2 + 1]'(by omega) = .int .i64 l[j].cell := by have := (cts_get hj).2; rw [List.getElem?_eq_getElem (by omega)] at this; exact Option.some.inj this
  have h1 := set_take (l := cs) (r := cts l) (k := j * 2) (by omega) (by omega) ht
  have h2 := set_take (l := cs.set (j * 2) (.int .i64 l[j].code)) (r := cts l) (k := j * 2 + 1) (by simp; omega) (by omega) (by rw [← e1]; exact h1)
  rw [e2] at h2
  rw [show (j + 1) * 2 = j * 2 + 1 + 1 by omega]
  exact h2
theorem ctl_info : (Try.prog.info? 54).map (fun i => (i.zero, i.size, i.bytes)) = some (some (.agg #[.int .i64 0, .int .i64 0]), 2, 16) := by kernel_rfl
/-- make([]T, n) for elements of s cells. -/
theorem run_make_st {P : Program} (t e : TypeId) (z : Value) (s bytes : Nat) (ht : P.underlying t = some (.slice e)) (hinfo : (P.info? e).map (fun i => (i.zero, i.size, i.bytes)) = some (some z, s, bytes))
    (kl kc : IntKind) (n : Nat) (hbytes : bytes * n ≤ 281474976710656) (h63 : n ≤ 9223372036854775807) (w : World) :
    (Instr.makeSlice t (.int kl (n : Int)) (.int kc (n : Int))).run P w = .ok (.slice (some ⟨w.heap.size, 0, none⟩) n n) (w.alloc (.cells (madeCells z.cells (n * s)) e)) := by
  obtain ⟨i, hi, hzz⟩ := Option.map_eq_some_iff.1 hinfo
  simp only [Prod.mk.injEq] at hzz
  obtain ⟨hz, hs, hb⟩ := hzz
  have hb' : (i.bytes : Int) * (n : Int) ≤ 281474976710656 := by
    have h : ((i.bytes * n : Nat) : Int) ≤ 281474976710656 := by rw [hb]; omega
    rwa [Int.natCast_mul] at h
  have hr := run_make (P := P) w t e i z ht hi hz kl kc n n (by omega) (Int.le_refl _) hb' (by omega)
  simp only [Int.toNat_natCast, hs] at hr
  exact hr
set_option maxHeartbeats 1000000 in
theorem toControlS_b {A : Option Addr} {n c : Nat} {l : List Ct} {w : World} (hA : Rd w w.heap.size 2 A n (cts l)) (hn : n ≤ 1048576) :
    Calls Try.prog 15 #[.slice A n c] w fun e w' => ∃ g, e = .returned (.slice (some ⟨g, 0, none⟩) n n) ∧ Blk w' g 54 (cts l) ∧ w.heap.size ≤ g ∧ Below w.heap.size w w' := by
  have HX := Lib.hid hA.clen
  have hmk := run_make_st (P := Try.prog) 31 54 (.agg #[.int .i64 0, .int .i64 0]) 2 16 Try.underlying31 ctl_info .i64 .i64 n (by omega) (by omega)
  go_enter Try.func15, Try.ntmps15
  go_wp2_with fail
  go_loopw [4] (fun i wr => ∃ k : Nat, k ≤ n ∧ i = .int .i64 k ∧ (∃ cs : List Value, Blk wr w.heap.size 54 cs ∧ cs.length = n * 2 ∧ cs.take (k * 2) = (cts l).take (k * 2)) ∧ Below w.heap.size w wr) (fun i _ => n - (intOf i).toNat)
  case atStart => exact ⟨0, Nat.zero_le _, rfl, ⟨_, Blk.new w 54 (madeCells #[.int .i64 0, .int .i64 0] (n * 2)).toList, by simp [size_madeCells], by simp⟩, (by repeat (first | exact Below.refl _ _ | refine below_drewN ?_ _ | refine Below.drew ?_ | refine Below.alloc ?_ (by first | omega | (simp; done) | (simp; omega)) _ | refine Below.setCell ?_ (by first | omega | (simp; done) | (simp; omega)) _))⟩
  case round =>
    obtain ⟨k, hk, rfl, ⟨cs, O, hcl, ht⟩, G⟩ := hrel
    have HT := Lib.hid ht
    have HC := Lib.hid hcl
    clear ht hcl
    by_cases hlt : k < n
    · obtain ⟨b, off, rfl, hbb, hca⟩ := hA.ct (show 0 < n by omega)
      have kx : k < l.length := by rw [HX.out]; exact hlt
      have c1 := ((bcell G).1 b (off + k * 2) hbb).trans (hca k kx).1
      have c2 := ((bcell G).1 b (off + k * 2 + 1) hbb).trans (hca k kx).2
      clear hca
      go_wp2_with fail
      refine (toControl_any l[k] _).mono ?_
      rintro e w1 ⟨rfl, hb⟩
      replace O := O.on hb
      replace G := G.trans (hb.mono G.size)
      clear c1 c2 hb
      have d1 : w1.cell? ⟨w.heap.size, k * 2, none⟩ = some (cs[k * 2]'(by have := HC.out; omega)) := by rw [O.cell]; simp [show k * 2 < cs.length by have := HC.out; omega]
      have d2 : w1.cell? ⟨w.heap.size, k * 2 + 1, none⟩ = some (cs[k * 2 + 1]'(by have := HC.out; omega)) := by rw [O.cell]; simp [show k * 2 + 1 < cs.length by have := HC.out; omega]
      have f1 := O.frozen (k * 2)
      have f2 := O.frozen (k * 2 + 1)
      go_wp2_with fail
      go_roundw
      case rel => exact ⟨k + 1, by omega, by go_num, ⟨_, (O.set_ _ _).set_ _ _, by simp [HC.out], cts_set (by rw [HC.out, HX.out]) kx HT.out⟩, Below.setCell (Below.setCell G (by simp) _) (by simp) _⟩
      case measure => simp [intOf]; omega
    · go_wp2_with fail
      go_ret
      have e : cs = cts l := by
        have := HT.out
        rwa [List.take_of_length_le (by rw [HC.out]; omega), List.take_of_length_le (by rw [cts_len, HX.out]; omega)] at this
      subst e
      exact ⟨_, rfl, O, Nat.le_refl _, G⟩
theorem eqControlS_b {A B : Option Addr} {n c d : Nat} {l : List Ct} {w : World} (hA : Rd w w.heap.size 2 A n (cts l)) (hB : Rd w w.heap.size 2 B n (cts l)) (hn : n ≤ 1048576) :
    Calls Try.prog 18 #[.slice A n c, .slice B n d] w fun e w' => e = .returned (.bool true) ∧ Below w.heap.size w w' := by
  have HX := Lib.hid hA.clen
  have hne : ((n : Int) != (n : Int)) = false := by simp
  go_enter Try.func18, Try.ntmps18
  go_wp2_with fail
  go_loopw [5] (fun i wr => ∃ k : Nat, k ≤ n ∧ i = .int .i64 k ∧ Below w.heap.size w wr) (fun i _ => n - (intOf i).toNat)
  case atStart => exact ⟨0, Nat.zero_le _, rfl, Below.refl _ _⟩
  case round =>
    obtain ⟨k, hk, rfl, G⟩ := hrel
    by_cases hlt : k < n
    · obtain ⟨b, off, rfl, hbb, hca⟩ := hA.ct (show 0 < n by omega)
      obtain ⟨b2, off2, rfl, hbb2, hca2⟩ := hB.ct (show 0 < n by omega)
      have kx : k < l.length := by rw [HX.out]; exact hlt
      have c1 := Lib.hid (hca k kx)
      have c2 := Lib.hid (hca2 k kx)
      have HE : Hid ((l[k].code == l[k].code && l[k].cell == l[k].cell) = true) := by show _ = _; simp
      clear hca hca2
      go_wp2_with fail
      refine wp_region_held_drew (S := fun w' => Below w.heap.size w w') (by kernel_rfl) ?_ (fun hHeld => ?_)
      · (try dsimp only)
        first | exact G.drew | exact hHeld.trans (hb6.mono hHeld.size)
      refine rgTake (i := 0) (d := 17) (v := ?_) rfl rfl (by kernel_rfl) (by kernel_rfl) (by kernel_rfl) (fun _ _ _ h => h) (by rfl) ?_ (by assumption) ?_
      rotate_left
      · ((intro w hSw); (try dsimp only at hSw); go_simp; (try with_reducible rfl))
      try simp only [Act.put, List.setIfInBounds_toArray, List.set_cons_zero, List.set_cons_succ]
      refine rgTake (i := 1) (d := 18) (v := ?_) rfl rfl (by kernel_rfl) (by kernel_rfl) (by kernel_rfl) (fun _ _ _ h => h) (by rfl) ?_ (by assumption) ?_
      rotate_left
      · ((intro w hSw); (try dsimp only at hSw); go_simp; (try with_reducible rfl))
      try simp only [Act.put, List.setIfInBounds_toArray, List.set_cons_zero, List.set_cons_succ]
      refine rgTake (i := 2) (d := 19) (v := ?_) rfl rfl (by kernel_rfl) (by kernel_rfl) (by kernel_rfl) (fun _ _ _ h => h) (by rfl) ?_ (by assumption) ?_
      rotate_left
      · ((intro w hSw); (try dsimp only at hSw); go_simp; (try with_reducible rfl))
      try simp only [Act.put, List.setIfInBounds_toArray, List.set_cons_zero, List.set_cons_succ]
      refine rgTake (i := 3) (d := 20) (v := ?_) rfl rfl (by kernel_rfl) (by kernel_rfl) (by kernel_rfl) (fun _ _ _ h => h) (by rfl) ?_ (by assumption) ?_
      rotate_left
      · ((intro w hSw); (try dsimp only at hSw); (have zc := ((bcell hSw).1 b (off + k * 2) hbb).trans c1.out.1; have zd := ((bcell hSw).1 b (off + k * 2 + 1) hbb).trans c1.out.2; have ze := ((bcell hSw).1 b2 (off2 + k * 2) hbb2).trans c2.out.1; have zf := ((bcell hSw).1 b2 (off2 + k * 2 + 1) hbb2).trans c2.out.2); go_simp; (try with_reducible rfl))
      try simp only [Act.put, List.setIfInBounds_toArray, List.set_cons_zero, List.set_cons_succ]
      refine rgTake (i := 4) (d := 21) (v := ?_) rfl rfl (by kernel_rfl) (by kernel_rfl) (by kernel_rfl) (fun _ _ _ h => h) (by rfl) ?_ (by assumption) ?_
      rotate_left
      · ((intro w hSw); (try dsimp only at hSw); go_simp; (try with_reducible rfl))
      try simp only [Act.put, List.setIfInBounds_toArray, List.set_cons_zero, List.set_cons_succ]
      refine rgTake (i := 5) (d := 22) (v := ?_) rfl rfl (by kernel_rfl) (by kernel_rfl) (by kernel_rfl) (fun _ _ _ h => h) (by rfl) ?_ (by assumption) ?_
      rotate_left
      · ((intro w hSw); (try dsimp only at hSw); go_simp; (try with_reducible rfl))
      try simp only [Act.put, List.setIfInBounds_toArray, List.set_cons_zero, List.set_cons_succ]
      refine rgTake (i := 6) (d := 23) (v := ?_) rfl rfl (by kernel_rfl) (by kernel_rfl) (by kernel_rfl) (fun _ _ _ h => h) (by rfl) ?_ (by assumption) ?_
      rotate_left
      · ((intro w hSw); (try dsimp only at hSw); go_simp; (try with_reducible rfl))
      try simp only [Act.put, List.setIfInBounds_toArray, List.set_cons_zero, List.set_cons_succ]
      refine rgTake (i := 7) (d := 24) (v := ?_) rfl rfl (by kernel_rfl) (by kernel_rfl) (by kernel_rfl) (fun _ _ _ h => h) (by rfl) ?_ (by assumption) ?_
      rotate_left
      · ((intro w hSw); (try dsimp only at hSw); (have zc := ((bcell hSw).1 b (off + k * 2) hbb).trans c1.out.1; have zd := ((bcell hSw).1 b (off + k * 2 + 1) hbb).trans c1.out.2; have ze := ((bcell hSw).1 b2 (off2 + k * 2) hbb2).trans c2.out.1; have zf := ((bcell hSw).1 b2 (off2 + k * 2 + 1) hbb2).trans c2.out.2); go_simp; (try with_reducible rfl))
      try simp only [Act.put, List.setIfInBounds_toArray, List.set_cons_zero, List.set_cons_succ]
      refine wpAnyH_ready (rs := [8]) (by kernel_rfl) (by simp) ?_
      refine AllReadyH.cons rfl (fun K hK => ?_) AllReadyH.nil
      go_simp
      refine (eqControl_any l[k] l[k] _).mono ?_; rintro e wy ⟨rfl, hb6⟩; rw [HE.out]
      go_wp2_with fail
      refine hK.out _ _ ?_ (fun hHeld => ?_)
      · (try dsimp only)
        first | exact G.drew | exact hHeld.trans (hb6.mono hHeld.size)
      clear hK K
      try simp only [Act.put, List.setIfInBounds_toArray, List.set_cons_zero, List.set_cons_succ]
      refine rgTake (i := 9) (d := 26) (v := ?_) rfl rfl (by kernel_rfl) (by kernel_rfl) (by kernel_rfl) (fun _ _ _ h => h) (by rfl) ?_ (by assumption) ?_
      rotate_left
      · ((intro w hSw); (try dsimp only at hSw); go_simp; (try with_reducible rfl))
      try simp only [Act.put, List.setIfInBounds_toArray, List.set_cons_zero, List.set_cons_succ]
      refine wpAnyH_done (by kernel_rfl) ?_ _
      go_wp2_with fail
      go_roundw
      case rel => exact ⟨k + 1, by omega, by go_num, hHeld⟩
      case measure => simp [intOf]; omega
    · go_wp2_with fail
      go_ret
      exact ⟨rfl, G⟩
/-- What is asked of a predicate on Controls that is handed to the library. -/
def FnPredC (P : Program) (g : Nat) (lb : Array Value) (p : Ct → Bool) (w : World) : Prop :=
  ∀ (x : Ct) (W : World), Below w.heap.size w W → Calls P g (#[.agg #[.int .i64 x.code, .int .i64 x.cell]] ++ lb) W fun e w' => e = .returned (.bool (p x)) ∧ Below W.heap.size W w'
theorem FnPredC.later {P : Program} {g : Nat} {lb : Array Value} {p : Ct → Bool} {w W : World} (h : FnPredC P g lb p w) (hb : Below w.heap.size w W) : FnPredC P g lb p W :=
  fun x W' hb' => h x W' (hb.trans (hb'.mono hb.size))
theorem IndexFunc_ct (g : Nat) (lb : Array Value) (p : Ct → Bool) (eg : ∀ args w, (callFunc g args).run Try.prog w = .ok (.enter g args) w) {A : Option Addr} {n c : Nat} {l : List Ct} {w : World} (hp : FnPredC Try.prog g lb p w) (hA : Rd w w.heap.size 2 A n (cts l)) (hn : n ≤ 1048576) :
    Calls Try.prog 76 #[.slice A n c, .func (.func g) #[] lb] w fun e w' => e = .returned (.int .i64 (idxB p l 0)) ∧ Below w.heap.size w w' := by
  have HX := Lib.hid hA.clen
  have HP := Lib.hid hp
  clear hp
  go_enter Try.func76, Try.ntmps76
  go_wp2
  go_loopw [8] (fun i wr => ∃ k : Nat, k ≤ n ∧ i = .int .i64 k ∧ Hid (∀ (j : Nat) (hj : j < l.length), j < k → p l[j] = false) ∧ Below w.heap.size w wr) (fun i _ => n - (intOf i).toNat)
  case atStart => exact ⟨0, Nat.zero_le _, rfl, (fun j _ h => absurd h (by omega)), Below.refl _ _⟩
  case round =>
    obtain ⟨k, hk, rfl, HN, hbel⟩ := hrel
    by_cases hlt : k < n
    · obtain ⟨b, off, rfl, hbb, hca⟩ := hA.ct (show 0 < n by omega)
      have kx : k < l.length := by rw [HX.out]; exact hlt
      have ha := ((bcell hbel).1 b (off + k * 2) hbb).trans (hca k kx).1
      have hb := ((bcell hbel).1 b (off + k * 2 + 1) hbb).trans (hca k kx).2
      clear hca
      have hcall := HP.out l[k] wr hbel
      generalize hq : p l[k] = pb at hcall
      have HQ := Lib.hid hq
      clear hq
      have H2 := Lib.hid hcall
      clear hcall
      cases pb
      · go_wp2_with (go_at_fn g; refine (H2.out).mono ?_; rintro e w' ⟨rfl, hb1⟩)
        go_roundw
        case rel => exact ⟨k + 1, by omega, by go_num, (show ∀ (j : Nat) (hj : j < l.length), j < k + 1 → p l[j] = false from fun j hj hjk => by
          by_cases e : j = k
          · subst e; exact HQ.out
          · exact HN.out j hj (by omega)), hbel.trans (hb1.mono hbel.size)⟩
        case measure => simp [intOf]; omega
      · go_wp2_with (go_at_fn g; refine (H2.out).mono ?_; rintro e w' ⟨rfl, hb1⟩)
        go_ret
        exact ⟨ret_int (by rw [idxB_hit l 0 k kx HQ.out HN.out]; omega), hbel.trans (hb1.mono hbel.size)⟩
    · go_wp2
      go_ret
      exact ⟨ret_int (by rw [idxB_miss l 0 fun j hj => HN.out j hj (by rw [HX.out] at hj; omega)]), hbel⟩
end Go.Proofs.Ytcjggopdgkopiaa
