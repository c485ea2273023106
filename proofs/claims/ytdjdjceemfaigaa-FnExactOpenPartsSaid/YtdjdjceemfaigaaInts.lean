/- Contracts of the helpers over slices of ints. -/
import Derived.Test.YtdjdjceemfaigaaBase
namespace Go.Proofs.Ytdjdjceemfaigaa
set_option linter.unusedVariables false
set_option linter.unusedSimpArgs false
open Go.RowKit
set_option maxHeartbeats 400000 in
theorem eqIntS_any (A B : Option Addr) (n m c d b1 b2 : Nat) (xs ys : List Int) (w : World) (hA : Rd w b1 1 A n (ints xs)) (hB : Rd w b2 1 B m (ints ys)) (hn : n ≤ maxLen) (hm : m ≤ maxLen) :
    Calls Try.prog 20 #[.slice A n c, .slice B m d] w fun e w' => e = .returned (.bool (decide (xs = ys))) ∧ ∃ k, w' = w.drewN k := by
  unfold maxLen at hn hm
  have hlx := hA.len
  have hly := hB.len
  by_cases hnm : n = m
  · subst hnm
    have hne : ((n : Int) != (n : Int)) = false := by simp
    have HX := Lib.hid hlx
    have HY := Lib.hid hly
    clear hlx hly
    go_enter Try.func20, Try.ntmps20
    go_wp2
    go_loopw [5] (fun i wr => ∃ k : Nat, k ≤ n ∧ i = .int .i64 k ∧ xs.take k = ys.take k ∧ ∃ q, wr = w.drewN q) (fun i _ => n - (intOf i).toNat)
    case atStart => exact ⟨0, Nat.zero_le _, rfl, rfl, 0, rfl⟩
    case round =>
      obtain ⟨k, hk, rfl, ht, q, rfl⟩ := hrel
      have HT := Lib.hid ht
      clear ht
      by_cases hlt : k < n
      · obtain ⟨b, off, rfl, _, hca⟩ := hA.int hlt
        obtain ⟨b', off', rfl, _, hcb⟩ := hB.int hlt
        have kx : k < xs.length := by rw [HX.out]; exact hlt
        have ky : k < ys.length := by rw [HY.out]; exact hlt
        have ha := hca k kx
        have hb := hcb k ky
        clear hca hcb
        by_cases he : xs[k] = ys[k]
        · have hbe : (xs[k] != ys[k]) = false := by simpa using he
          have HE := Lib.hid he
          clear he
          go_wp2
          go_quiet (fail)
          go_wp2
          go_roundw
          case rel => exact ⟨k + 1, by omega, by go_num, take_eq_succ HT.out kx ky HE.out, q + nq, by first | rfl | exact World.drewN_drewN _ _ _⟩
          case measure => simp [intOf]; omega
        · have hbe : (xs[k] != ys[k]) = true := by simpa using he
          have HE := Lib.hid he
          clear he
          go_wp2
          go_quiet (fail)
          go_wp2
          go_ret
          exact ⟨ret_bool (by symm; rw [decide_eq_false_iff_not]; intro e; subst e; exact HE.out rfl), q + nq, by first | rfl | exact World.drewN_drewN _ _ _⟩
      · go_wp2
        go_ret
        exact ⟨ret_bool (by
          symm; rw [decide_eq_true_iff]
          have := HT.out
          rwa [List.take_of_length_le (by rw [HX.out]; omega), List.take_of_length_le (by rw [HY.out]; omega)] at this), _, rfl⟩
  · have hne : ((n : Int) != (m : Int)) = true := by simp; omega
    go_enter Try.func20, Try.ntmps20
    go_wp2
    go_ret
    exact ⟨ret_bool (by symm; rw [decide_eq_false_iff_not]; intro e; subst e; omega), 0, rfl⟩
theorem int_info : (Try.prog.info? 3).map (fun i => (i.zero, i.size, i.bytes)) = some (some (.int .i64 0), 1, 8) := by kernel_rfl
set_option maxHeartbeats 400000 in
theorem toIntS_any (A : Option Addr) (n c b1 : Nat) (xs : List Int) (w : World) (hA : Rd w b1 1 A n (ints xs)) (hb1 : b1 ≤ w.heap.size) (hn : n ≤ 1048576) :
    Calls Try.prog 16 #[.slice A n c] w fun e w' => e = .returned (.slice (some ⟨w.heap.size, 0, none⟩) n n) ∧ w' = w.alloc (.cells (ints xs).toArray 3) := by
  have HX := Lib.hid hA.len
  have hmk := run_make_row' (P := Try.prog) 22 3 (.int .i64 0) 8 Try.underlying22 int_info rfl .i64 .i64 n (by omega) (by omega)
  go_enter Try.func16, Try.ntmps16
  go_wp2
  go_loopw [4] (fun i wr => ∃ k : Nat, k ≤ n ∧ i = .int .i64 k ∧ ∃ cs : List Value, wr = w.alloc (.cells cs.toArray 3) ∧ cs.length = n ∧ cs.take k = (ints xs).take k) (fun i _ => n - (intOf i).toNat)
  case atStart => exact ⟨0, Nat.zero_le _, rfl, (madeCells #[.int .i64 0] n).toList, rfl, by simp [size_madeCells], rfl⟩
  case round =>
    obtain ⟨k, hk, rfl, cs, rfl, hcl, ht⟩ := hrel
    have HT := Lib.hid ht
    have HC := Lib.hid hcl
    clear ht hcl
    by_cases hlt : k < n
    · obtain ⟨b, off, rfl, hbb, hca⟩ := hA.int hlt
      have kx : k < xs.length := by rw [HX.out]; exact hlt
      have ha : (w.alloc (.cells cs.toArray 3)).cell? ⟨b, off + k, none⟩ = some (.int .i64 xs[k]) := by
        rw [World.cell?_alloc_past _ _ _ (by omega)]; exact hca k kx
      have hcell : (w.alloc (.cells cs.toArray 3)).cell? ⟨w.heap.size, k, none⟩ = some (cs[k]'(by rw [HC.out]; exact hlt)) := by rw [World.cell?_alloc_at _ _ _ _ rfl]; simp [HC.out, hlt]
      clear hca
      go_wp2
      go_roundw
      case rel => exact ⟨k + 1, by omega, by go_num, cs.set k (.int .i64 xs[k]), by simp, by simp [HC.out], by
        have := set_take (l := cs) (r := ints xs) (k := k) (by simp [ints, HC.out, HX.out]) (by simp [ints, HX.out, hlt]) HT.out
        simpa [ints] using this⟩
      case measure => simp [intOf]; omega
    · go_wp2
      go_ret
      have e : cs = ints xs := by
        have := HT.out
        rwa [List.take_of_length_le (by rw [HC.out]; omega), List.take_of_length_le (by simp [ints, HX.out]; omega)] at this
      subst e
      exact ⟨rfl, rfl⟩
theorem own_at {w : World} {base : Nat} {e : TypeId} {size : Nat} {A : Option Addr} {n c : Nat} {xs : List Value} (h : w.ownsRow base e size (.slice A n c) n xs) (hn : 0 < n) : ∃ g, A = some ⟨g, 0, none⟩ ∧ base ≤ g ∧ g < w.heap.size := by
  obtain ⟨g, cap, hv, hb, hlt⟩ := h.form hn
  injection hv with h1
  exact ⟨g, h1, hb, hlt⟩
theorem grown_trans {a b c : World} {row : Option Nat} (h : a.grownBy b row) (k : b.grownBy c row) : a.grownBy c row :=
  ⟨k.os.trans h.os, k.tape.trans h.tape, k.output.trans h.output, Nat.le_trans h.size k.size, fun i hi hr => (k.block i (Nat.lt_of_lt_of_le hi h.size) hr).trans (h.block i hi hr)⟩
def marksI (k : Int) (n : Nat) : List Value := (List.range n).map fun (i : Nat) => .int .i64 (k + i)
theorem marksI_get {k : Int} {n j : Nat} (h : j < n) : (marksI k n)[j]? = some (.int .i64 (k + j)) := by simp [marksI, h]
theorem marksI_len (k : Int) (n : Nat) : (marksI k n).length = n := by simp [marksI]
set_option maxHeartbeats 400000 in
theorem markIntS_any (A : Option Addr) (n c base : Nat) (k : Int) (xs : List Value) (w : World) (hown : w.ownsRow base 3 1 (.slice A n c) n xs) (hk0 : 0 ≤ k) (hk1 : k ≤ 1000000000) (hn : n ≤ 1000000000) :
    Calls Try.prog 21 #[.slice A n c, .int .i64 k] w fun e w' => e = .returned (.int .i64 (k + n)) ∧ w'.ownsRow base 3 1 (.slice A n c) n (marksI k n) ∧ w.grownBy w' (Value.ownBlock (.slice A n c)) := by
  go_enter Try.func21, Try.ntmps21
  go_wp2
  go_loopw [1, 5] (fun q i wr => ∃ j : Nat, j ≤ n ∧ i = .int .i64 j ∧ q = .int .i64 (k + j) ∧ (∃ ys, wr.ownsRow base 3 1 (.slice A n c) n ys ∧ ys.take j = (marksI k n).take j) ∧ w.grownBy wr (Value.ownBlock (.slice A n c))) (fun _ i _ => n - (intOf i).toNat)
  case atStart => exact ⟨0, Nat.zero_le _, rfl, by go_num, ⟨xs, hown, rfl⟩, World.grownBy.refl _ _⟩
  case round =>
    obtain ⟨j, hj, rfl, rfl, ⟨ys, ho, ht⟩, hg⟩ := hrel
    have hyl : ys.length = n := by simpa using ho.1
    have HT := Lib.hid ht
    have HY := Lib.hid hyl
    clear ht hyl
    by_cases hlt : j < n
    · obtain ⟨g, rfl, hbg, hgl⟩ := own_at ho (by omega)
      have hcell := ho.cellAt j (by omega)
      have hcell' : wr.cell? ⟨g, j, none⟩ = some (ys[j]'(by rw [HY.out]; exact hlt)) := by rw [hcell]; simp [HY.out, hlt]
      have hfr := ho.frozenAt j
      obtain ⟨ho', hg'⟩ := ho.stored j (.int .i64 (k + j))
      clear hcell
      have HG := Lib.hid hg'
      have HO := Lib.hid ho'
      clear hg' ho'
      go_wp2
      go_roundw
      case rel => exact ⟨j + 1, by omega, by go_num, by go_num, ⟨_, HO.out, by
        have := set_take (l := ys) (r := marksI k n) (k := j) (by simp [marksI, HY.out]) (by simp [marksI, hlt]) HT.out
        simpa [marksI] using this⟩, grown_trans hg HG.out⟩
      case measure => simp [intOf]; omega
    · go_wp2
      go_ret
      have e : ys = marksI k n := by
        have := HT.out
        rwa [List.take_of_length_le (by rw [HY.out]; omega), List.take_of_length_le (by simp [marksI]; omega)] at this
      subst e
      exact ⟨ret_int (by omega), ho, hg⟩
set_option maxHeartbeats 400000 in
theorem heldIntS_any (A : Option Addr) (n c b1 : Nat) (k : Int) (w : World) (hA : Rd w b1 1 A n (marksI k n)) (hk0 : 0 ≤ k) (hk1 : k ≤ 1000000000) (hn : n ≤ 1000000000) :
    Calls Try.prog 22 #[.slice A n c, .int .i64 k] w fun e w' => e = .returned (.int .i64 (k + n)) ∧ ∃ q, w' = w.drewN q := by
  go_enter Try.func22, Try.ntmps22
  go_wp2
  go_loopw [1, 5] (fun q i wr => ∃ j : Nat, j ≤ n ∧ i = .int .i64 j ∧ q = .int .i64 (k + j) ∧ ∃ r, wr = w.drewN r) (fun _ i _ => n - (intOf i).toNat)
  case atStart => exact ⟨0, Nat.zero_le _, rfl, by go_num, 0, rfl⟩
  case round =>
    obtain ⟨j, hj, rfl, rfl, r, rfl⟩ := hrel
    by_cases hlt : j < n
    · obtain ⟨b, off, rfl, hbb, hca⟩ := hA.2 (by omega)
      have ha := hca j _ (marksI_get hlt)
      have hne : ((k + (j : Int)) != (k + (j : Int))) = false := by simp
      clear hca
      go_wp2
      try go_quiet (fail)
      try go_wp2
      go_roundw
      case rel => exact ⟨j + 1, by omega, by go_num, by go_num, _, by first | rfl | exact World.drewN_drewN _ _ _⟩
      case measure => simp [intOf]; omega
    · go_wp2
      go_ret
      exact ⟨ret_int (by omega), r, rfl⟩
theorem szIntS_any (A : Option Addr) (n c : Nat) (left : Int) (w : World) (hl : 0 ≤ left) (hl' : left ≤ 1048576) (hn : n ≤ maxLen) :
    Calls Try.prog 13 #[.slice A n c, .int .i64 left] w fun e w' => e = .returned (.int .i64 (if left < n then -1 else left - n)) ∧ w = w' := by
  unfold maxLen at hn
  by_cases h : left < n
  · rw [if_pos h]
    go_enter Try.func13, Try.ntmps13
    go_wp2
    go_ret
    exact ⟨rfl, rfl⟩
  · rw [if_neg h]
    go_enter Try.func13, Try.ntmps13
    go_wp2
    go_ret
    exact ⟨rfl, rfl⟩
end Go.Proofs.Ytdjdjceemfaigaa
