/- Contracts of the helpers over slices of strings: sizes, a copy, equality. -/
import Derived.Test.YtomdknmgadebhaaStrs
import Derived.Test.YtomdknmgadebhaaCh
import Derived.Test.YtomdknmgadebhaaRg
namespace Go.Proofs.Ytomdknmgadebhaa
set_option linter.unusedVariables false
set_option linter.unusedSimpArgs false
open Go.RowKit
def ssz (l : List ByteArray) : Nat := (l.map ByteArray.size).sum
theorem ssz_take {l : List ByteArray} {k : Nat} (hk : k < l.length) : ssz (l.take (k + 1)) = ssz (l.take k) + l[k].size := by
  unfold ssz
  rw [List.take_succ_eq_append_getElem hk, List.map_append, List.sum_append]
  simp
theorem ssz_le (l : List ByteArray) (k : Nat) : ssz (l.take k) ≤ ssz l := by
  have : ssz l = ssz (l.take k) + ssz (l.drop k) := by
    unfold ssz
    rw [← List.sum_append, ← List.map_append, List.take_append_drop]
  omega
def szT (n t : Nat) : Int := if 1048576 < n + t then -1 else 1048576 - (n : Int) - (t : Int)
set_option maxHeartbeats 1000000 in
theorem szStringS_any {A : Option Addr} {n c : Nat} {l : List ByteArray} {w : World} (hA : Rd w w.heap.size 1 A n (strs l)) (hn : n ≤ maxLen) (hs : ∀ s ∈ l, s.size ≤ maxLen) :
    Calls Try.prog 5 #[.slice A n c, .int .i64 1048576] w fun e w' => e = .returned (.int .i64 (szT n (ssz l))) ∧ Below w.heap.size w w' := by
  have hlen : l.length = n := by have := hA.1; rw [strs_len] at this; omega
  unfold maxLen at hn
  have HX := Lib.hid hlen
  have HS : Hid (∀ s ∈ l, s.size ≤ 9223372036854775807) := (show ∀ s ∈ l, _ from fun s h => by have := hs s h; unfold maxLen at this; omega)
  clear hs hlen
  have hw : IntKind.i64.wrap (1048576 - (n : Int)) = 1048576 - (n : Int) := IntWalk.i64_in _ (by omega)
  by_cases h : 1048576 < n
  · have h9 : ((1048576 : Int) - (n : Int)) < 0 := by omega
    have HR : Hid (szT n (ssz l) = -1) := by show _ = _; unfold szT; rw [if_pos (by omega)]
    go_enter Try.func5, Try.ntmps5
    go_wp2_with fail
    go_ret
    exact ⟨ret_int HR.out.symm, Below.refl _ _⟩
  · have h9 : ¬ ((1048576 : Int) - (n : Int)) < 0 := by omega
    have h8 : decide (((1048576 : Int) - (n : Int)) < 0) = false := by simp; omega
    go_enter Try.func5, Try.ntmps5
    go_wp2_with fail
    go_loopw [1, 5] (fun q i wr => ∃ k : Nat, k ≤ n ∧ i = .int .i64 k ∧ n + ssz (l.take k) ≤ 1048576 ∧ q = .int .i64 (1048576 - (n : Int) - (ssz (l.take k) : Int)) ∧ Below w.heap.size w wr) (fun _ i _ => n - (intOf i).toNat)
    case atStart => exact ⟨0, Nat.zero_le _, rfl, by simp [ssz]; omega, by simp [ssz], Below.refl _ _⟩
    case round =>
      obtain ⟨k, hk, rfl, hle, rfl, G⟩ := hrel
      by_cases hlt : k < n
      · obtain ⟨b, off, rfl, hbb, hca⟩ := hA.2 (show 0 < n by omega)
        have kx : k < l.length := by rw [HX.out]; exact hlt
        have cz := (G.cell (p := ⟨b, off + k, none⟩) hbb).trans (hca k (.string l[k]) (by simp [strs, kx]))
        have HT := Lib.hid (ssz_take kx)
        have hrs := HS.out l[k] (List.getElem_mem kx)
        have hle2 := Lib.hid (ssz_le l (k + 1))
        generalize hr : l[k] = r at *
        clear hca hr
        have hwr : IntKind.i64.wrap (1048576 - (n : Int) - (ssz (l.take k) : Int) - (r.size : Int)) = 1048576 - (n : Int) - (ssz (l.take k) : Int) - (r.size : Int) := IntWalk.i64_in _ (by omega)
        by_cases hbig : (1048576 - (n : Int) - (ssz (l.take k) : Int)) < (r.size : Nat)
        · have HR : Hid (szT n (ssz l) = -1) := by
            show _ = _
            have h1 := HT.out
            have h2 := hle2.out
            unfold szT
            rw [if_pos (by omega)]
          have hnn : (1048576 - (n : Int) - (ssz (l.take k) : Int) - (r.size : Int)) < 0 := by omega
          have hnd : decide ((1048576 - (n : Int) - (ssz (l.take k) : Int) - (r.size : Int)) < 0) = true := by simp; omega
          go_wp2_with fail
          go_ret
          exact ⟨ret_int HR.out.symm, G⟩
        · have hnn : ¬ (1048576 - (n : Int) - (ssz (l.take k) : Int) - (r.size : Int)) < 0 := by omega
          have hnd : decide ((1048576 - (n : Int) - (ssz (l.take k) : Int) - (r.size : Int)) < 0) = false := by simp; omega
          go_wp2_with fail
          go_roundw
          case rel => exact ⟨k + 1, by omega, by go_num, by have := HT.out; omega, by congr 1; have := HT.out; omega, G⟩
          case measure => simp [intOf]; omega
      · have hkn : k = n := by omega
        have HR : Hid (szT n (ssz l) = 1048576 - (n : Int) - (ssz (l.take k) : Int)) := by
          show _ = _
          have e : l.take k = l := List.take_of_length_le (by rw [HX.out]; omega)
          rw [e] at hle ⊢
          unfold szT
          rw [if_neg (by omega)]
        clear hkn
        go_wp2_with fail
        go_ret
        exact ⟨ret_int HR.out.symm, G⟩
set_option maxHeartbeats 400000 in
theorem toStringS_any {A : Option Addr} {n c b1 : Nat} {xs : List ByteArray} {w : World} (hA : Rd w b1 1 A n (strs xs)) (hb1 : b1 ≤ w.heap.size) (hn : n ≤ 1048576) :
    Calls Try.prog 7 #[.slice A n c] w fun e w' => e = .returned (.slice (some ⟨w.heap.size, 0, none⟩) n n) ∧ w' = w.alloc (.cells (strs xs).toArray 9) := by
  have HX : Hid (xs.length = n) := (by have := hA.1; rw [strs_len] at this; omega : xs.length = n)
  have hmk := run_make_row' (P := Try.prog) 22 9 (.string ByteArray.empty) 16 Try.underlying22 string_info rfl .i64 .i64 n (by omega) (by omega)
  go_enter Try.func7, Try.ntmps7
  go_wp2
  go_loopw [4] (fun i wr => ∃ k : Nat, k ≤ n ∧ i = .int .i64 k ∧ ∃ cs : List Value, wr = w.alloc (.cells cs.toArray 9) ∧ cs.length = n ∧ cs.take k = (strs xs).take k) (fun i _ => n - (intOf i).toNat)
  case atStart => exact ⟨0, Nat.zero_le _, rfl, (madeCells #[.string ByteArray.empty] n).toList, rfl, by simp [size_madeCells], rfl⟩
  case round =>
    obtain ⟨k, hk, rfl, cs, rfl, hcl, ht⟩ := hrel
    have HT := Lib.hid ht
    have HC := Lib.hid hcl
    clear ht hcl
    by_cases hlt : k < n
    · obtain ⟨b, off, rfl, hbb, hca⟩ := hA.2 (show 0 < n by omega)
      have kx : k < xs.length := by rw [HX.out]; exact hlt
      have ha : (w.alloc (.cells cs.toArray 9)).cell? ⟨b, off + k, none⟩ = some (.string xs[k]) := by
        rw [World.cell?_alloc_past _ _ _ (by omega)]; exact hca k (.string xs[k]) (by simp [strs, kx])
      have hcell : (w.alloc (.cells cs.toArray 9)).cell? ⟨w.heap.size, k, none⟩ = some (cs[k]'(by rw [HC.out]; exact hlt)) := by rw [World.cell?_alloc_at _ _ _ _ rfl]; simp [HC.out, hlt]
      clear hca
      go_wp2
      go_roundw
      case rel => exact ⟨k + 1, by omega, by go_num, cs.set k (.string xs[k]), by simp, by simp [HC.out], by
        have := set_take (l := cs) (r := strs xs) (k := k) (by simp [strs, HC.out, HX.out]) (by simp [strs, HX.out, hlt]) HT.out
        simpa [strs] using this⟩
      case measure => simp [intOf]; omega
    · go_wp2
      go_ret
      have e : cs = strs xs := by
        have := HT.out
        rwa [List.take_of_length_le (by rw [HC.out]; omega), List.take_of_length_le (by simp [strs, HX.out]; omega)] at this
      subst e
      exact ⟨rfl, rfl⟩
set_option maxHeartbeats 400000 in
theorem eqStringS_one {A B : Option Addr} {n c d b1 b2 : Nat} {xs : List ByteArray} {w : World} (hA : Rd w b1 1 A n (strs xs)) (hB : Rd w b2 1 B n (strs xs)) (hn : n ≤ maxLen) :
    Calls Try.prog 9 #[.slice A n c, .slice B n d] w fun e w' => e = .returned (.bool true) ∧ Below w.heap.size w w' := by
  unfold maxLen at hn
  have HX : Hid (xs.length = n) := (by have := hA.1; rw [strs_len] at this; omega : xs.length = n)
  have hne : ((n : Int) != (n : Int)) = false := by simp
  go_enter Try.func9, Try.ntmps9
  go_wp2
  go_loopw [5] (fun i wr => ∃ k : Nat, k ≤ n ∧ i = .int .i64 k ∧ ∃ q, wr = w.drewN q) (fun i _ => n - (intOf i).toNat)
  case atStart => exact ⟨0, Nat.zero_le _, rfl, 0, rfl⟩
  case round =>
    obtain ⟨k, hk, rfl, q, rfl⟩ := hrel
    by_cases hlt : k < n
    · obtain ⟨b, off, rfl, _, hca⟩ := hA.2 (by omega)
      obtain ⟨b', off', rfl, _, hcb⟩ := hB.2 (by omega)
      have kx : k < xs.length := by rw [HX.out]; exact hlt
      have ha := hca k (.string xs[k]) (by simp [strs, kx])
      have hb := hcb k (.string xs[k]) (by simp [strs, kx])
      have hee : (xs[k].toList != xs[k].toList) = false := by simp
      clear hca hcb
      go_wp2
      go_quiet (fail)
      go_wp2
      go_roundw
      case rel => exact ⟨k + 1, by omega, by go_num, q + nq, by first | rfl | exact World.drewN_drewN _ _ _⟩
      case measure => simp [intOf]; omega
    · go_wp2
      go_ret
      exact ⟨rfl, below_drewN (Below.refl _ _) _⟩
end Go.Proofs.Ytomdknmgadebhaa
