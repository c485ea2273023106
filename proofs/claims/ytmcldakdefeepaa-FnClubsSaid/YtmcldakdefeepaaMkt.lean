/- Contracts: the marks that a law lays into a slice of strings, and the comparison of two slices of strings. -/
import Derived.Test.YtmcldakdefeepaaCh
import Derived.Test.YtmcldakdefeepaaStrs
import Derived.Deep.RegionWith
namespace Go.Proofs.Ytmcldakdefeepaa
set_option linter.unusedVariables false
set_option linter.unusedSimpArgs false
open Go.RowKit
def dg (n : Nat) : UInt8 := UInt8.ofNat (48 + n % 10)
theorem dg_nat (n : Nat) : (dg n).toNat = 48 + n % 10 := by
  unfold dg
  rw [UInt8.toNat_ofNat']
  exact Nat.mod_eq_of_lt (by omega)
def mtL : Nat → Nat → List UInt8 → List UInt8
  | 0, _, acc => acc
  | f + 1, k, acc => if k = 0 then acc else mtL f (k / 10) (dg k :: acc)
def mt (k : Nat) : ByteArray := ⟨(109 :: mtL k k []).toArray⟩
set_option maxHeartbeats 400000 in
theorem eqStringS_same {A B : Option Addr} {n c d b1 b2 : Nat} {xs : List ByteArray} {w : World} (hA : Rd w b1 1 A n (strs xs)) (hB : Rd w b2 1 B n (strs xs)) (hn : n ≤ maxLen) :
    Calls Try.prog 39 #[.slice A n c, .slice B n d] w fun e w' => e = .returned (.bool true) ∧ ∃ k, w' = w.drewN k := by
  unfold maxLen at hn
  have HX := Lib.hid (show xs.length = n by simpa [strs] using hA.1)
  have hne : ((n : Int) != (n : Int)) = false := by simp
  go_enter Try.func39, Try.ntmps39
  go_wp2
  go_loopw [5] (fun i wr => ∃ k : Nat, k ≤ n ∧ i = .int .i64 k ∧ ∃ q, wr = w.drewN q) (fun i _ => n - (intOf i).toNat)
  case atStart => exact ⟨0, Nat.zero_le _, rfl, 0, rfl⟩
  case round =>
    obtain ⟨k, hk, rfl, q, rfl⟩ := hrel
    by_cases hlt : k < n
    · obtain ⟨b, off, rfl, _, hca⟩ := hA.2 (by omega)
      obtain ⟨b', off', rfl, _, hcb⟩ := hB.2 (by omega)
      have kx : k < xs.length := by rw [HX.out]; exact hlt
      have ha := hca k (.string xs[k]) (by simp [strs, kx])
      have hb := hcb k (.string xs[k]) (by simp [strs, kx])
      clear hca hcb
      go_wp2
      go_quiet (fail)
      go_wp2
      go_roundw
      case rel => exact ⟨k + 1, by omega, by go_num, q + nq, by first | rfl | exact World.drewN_drewN _ _ _⟩
      case measure => simp [intOf]; omega
    · go_wp2
      go_ret
      exact ⟨rfl, _, rfl⟩
theorem eqStringS_b {A B : Option Addr} {n c d b1 b2 : Nat} {xs : List ByteArray} {w : World} (hA : Rd w b1 1 A n (strs xs)) (hB : Rd w b2 1 B n (strs xs)) (hn : n ≤ maxLen) :
    Calls Try.prog 39 #[.slice A n c, .slice B n d] w fun e w' => e = .returned (.bool true) ∧ Below w.heap.size w w' :=
  (eqStringS_same hA hB hn).mono fun e w' ⟨he, k, hk⟩ => ⟨he, by rw [hk]; exact below_drewN (Below.refl _ _) k⟩
set_option maxHeartbeats 400000 in
theorem markText_any (k : Nat) (w : World) (hk : 0 < k) (hk2 : k ≤ 1000000000) :
    Calls Try.prog 56 #[.int .i64 k] w fun e w' => e = .returned (.string (mt k)) ∧ Below w.heap.size w w' := by
  go_enter Try.func56, Try.ntmps56
  go_wp2
  go_loopw [0, 3] (fun q o wr => ∃ (f j : Nat) (acc : List UInt8), q = .int .i64 (j : Nat) ∧ j ≤ 1000000000 ∧ acc.length + j ≤ 1000000000 ∧ j ≤ f ∧ o = .string ⟨acc.toArray⟩ ∧ Hid (mtL f j acc = mtL k k []) ∧ Below w.heap.size w wr) (fun q _ _ => (intOf q).toNat)
  case atStart => exact ⟨k, k, [], rfl, hk2, by simpa using hk2, Nat.le_refl _, rfl, rfl, Below.refl _ _⟩
  case round =>
    obtain ⟨f, j, acc, rfl, hj, hal, hjf, rfl, HM, hbel⟩ := hrel
    by_cases hlt : 0 < j
    · have hj10 : ((dg j).toNat : Int) = 48 + (j : Int) % 10 := by
        rw [dg_nat]; omega
      have hcv : (convert 58 9 (.slice (some ⟨wr.heap.size, 0, none⟩) 1 1)).run Try.prog (wr.alloc (.cells #[.int .u8 (48 + (j : Int) % 10)] 5)) = .ok (.string ⟨[dg j].toArray⟩) (wr.alloc (.cells #[.int .u8 (48 + (j : Int) % 10)] 5)) :=
        run_convert_bytes_back _ 58 9 5 ⟨wr.heap.size, 0, none⟩ 1 [dg j] Try.underlying58 Try.underlying5 Try.underlying9 (fun i hi => by
          have h0 : i = 0 := by simpa using hi
          subst h0
          show World.cell? _ _ = some (.int .u8 ((dg j).toNat : Int))
          rw [hj10]
          exact cell_one_new wr _ _ 0 _ rfl)
      have HJ := Lib.hid hj10
      clear hj10
      go_wp2
      go_roundw
      case rel => exact ⟨f - 1, j / 10, dg j :: acc, by go_num, by omega, by simp; omega, by omega, rfl, (by show mtL _ _ _ = _; rw [← HM.out]; obtain ⟨f', rfl⟩ : ∃ f', f = f' + 1 := ⟨f - 1, by omega⟩; rw [mtL, if_neg (by omega)]; rfl), hbel.alloc hbel.size _⟩
      case measure => simp [intOf]; omega
    · have h0 : j = 0 := by omega
      subst h0
      go_wp2
      go_ret
      refine ⟨?_, hbel⟩
      have e : mtL k k [] = acc := by rw [← HM.out]; cases f <;> simp [mtL]
      rw [mt, e]; simp [ByteArray.append]; rfl
theorem grownBy_trans {a b c : World} {row : Option Nat} (h : a.grownBy b row) (k : b.grownBy c row) : a.grownBy c row :=
  ⟨k.os.trans h.os, k.tape.trans h.tape, k.output.trans h.output, Nat.le_trans h.size k.size, fun i hi hr => (k.block i (Nat.lt_of_lt_of_le hi h.size) hr).trans (h.block i hi hr)⟩
theorem own_ix {w : World} {base : Nat} {e : TypeId} {size : Nat} {A : Option Addr} {n c : Nat} {xs : List Value} (h : w.ownsRow base e size (.slice A n c) n xs) (hn : 0 < n) : ∃ g, A = some ⟨g, 0, none⟩ ∧ base ≤ g ∧ g < w.heap.size := by
  obtain ⟨g, cap, hv, hb, hlt⟩ := h.form hn
  injection hv with h1
  exact ⟨g, h1, hb, hlt⟩
def marksS (k n : Nat) : List ByteArray := (List.range n).map fun (i : Nat) => mt (k + i)
theorem marksS_len (k n : Nat) : (marksS k n).length = n := by simp [marksS]
theorem marksS_get {k n j : Nat} (h : j < n) : (strs (marksS k n))[j]? = some (.string (mt (k + j))) := by simp [strs, marksS, h]
theorem markText_int (q : Int) (k : Nat) (w : World) (hq : q = k) (hk : 0 < k) (hk2 : k ≤ 1000000000) :
    Calls Try.prog 56 #[.int .i64 q] w fun e w' => e = .returned (.string (mt k)) ∧ Below w.heap.size w w' := by
  subst hq; exact markText_any k w hk hk2
set_option maxHeartbeats 400000 in
theorem markStringS_any {A : Option Addr} {n c base k : Nat} {xs : List Value} {w : World} (hown : w.ownsRow base 9 1 (.slice A n c) n xs) (hk0 : 0 < k) (hk1 : k ≤ 100000000) (hn : n ≤ 100000000) :
    Calls Try.prog 40 #[.slice A n c, .int .i64 k] w fun e w' => e = .returned (.int .i64 (k + n)) ∧ w'.ownsRow base 9 1 (.slice A n c) n (strs (marksS k n)) ∧ w.grownBy w' (Value.ownBlock (.slice A n c)) := by
  go_enter Try.func40, Try.ntmps40
  go_wp2
  go_loopw [1, 5] (fun q i wr => ∃ j : Nat, j ≤ n ∧ i = .int .i64 j ∧ q = .int .i64 ((k : Int) + (j : Int)) ∧ (∃ ys, wr.ownsRow base 9 1 (.slice A n c) n ys ∧ ys.take j = (strs (marksS k n)).take j) ∧ w.grownBy wr (Value.ownBlock (.slice A n c))) (fun _ i _ => n - (intOf i).toNat)
  case atStart => exact ⟨0, Nat.zero_le _, rfl, by go_num, ⟨xs, hown, rfl⟩, World.grownBy.refl _ _⟩
  case round =>
    obtain ⟨j, hj, rfl, rfl, ⟨ys, ho, ht⟩, hg⟩ := hrel
    have HT := Lib.hid ht
    clear ht
    by_cases hlt : j < n
    · obtain ⟨g, rfl, hbg, hgl⟩ := own_ix ho (by omega)
      go_wp2_with fail
      refine (markText_int _ (k + j) _ (by omega) (by omega) (by omega)).mono ?_
      rintro e w1 ⟨rfl, hb1⟩
      have ho1 := own_below ho hb1
      have HY : Hid (ys.length = n) := (by simpa using ho1.1 : ys.length = n)
      have hcell' : w1.cell? ⟨g, j, none⟩ = some (ys[j]'(by rw [HY.out]; exact hlt)) := by rw [ho1.cellAt j (by omega)]; simp [HY.out, hlt]
      have hfr := ho1.frozenAt j
      have HS := Lib.hid (ho1.stored j (.string (mt (k + j))))
      have HG := Lib.hid (grownBy_trans hg (grown_of_below hb1 _))
      clear ho ho1 hg
      go_wp2_with fail
      go_roundw
      case rel => exact ⟨j + 1, by omega, by go_num, by go_num, ⟨_, HS.out.1, by
        have := set_take (l := ys) (r := strs (marksS k n)) (k := j) (by simp [strs, marksS, HY.out]) (by simp [strs, marksS, hlt]) HT.out
        simpa [strs, marksS] using this⟩, grownBy_trans HG.out HS.out.2⟩
      case measure => simp [intOf]; omega
    · go_wp2
      go_ret
      have hyl : ys.length = n := by simpa using ho.1
      have e : ys = strs (marksS k n) := by
        have := HT.out
        rwa [List.take_of_length_le (by omega), List.take_of_length_le (by simp [strs, marksS]; omega)] at this
      subst e
      exact ⟨ret_int (by omega), ho, hg⟩
set_option maxHeartbeats 400000 in
theorem heldStringS_any {A : Option Addr} {n c k : Nat} {w : World} (hA : Rd w w.heap.size 1 A n (strs (marksS k n))) (hk0 : 0 < k) (hk1 : k ≤ 100000000) (hn : n ≤ 100000000) :
    Calls Try.prog 41 #[.slice A n c, .int .i64 k] w fun e w' => e = .returned (.int .i64 (k + n)) ∧ Below w.heap.size w w' := by
  go_enter Try.func41, Try.ntmps41
  go_wp2
  go_loopw [1, 5] (fun q i wr => ∃ j : Nat, j ≤ n ∧ i = .int .i64 j ∧ q = .int .i64 ((k : Int) + (j : Int)) ∧ Below w.heap.size w wr) (fun _ i _ => n - (intOf i).toNat)
  case atStart => exact ⟨0, Nat.zero_le _, rfl, by go_num, Below.refl _ _⟩
  case round =>
    obtain ⟨j, hj, rfl, rfl, hbel⟩ := hrel
    by_cases hlt : j < n
    · obtain ⟨b, off, rfl, hbb, hca⟩ := hA.2 (by omega)
      have ha : wr.cell? ⟨b, off + j, none⟩ = some (.string (mt (k + j))) := (hbel.cell (p := ⟨b, off + j, none⟩) hbb).trans (hca j _ (marksS_get hlt))
      have hbr : b < wr.heap.size := Nat.lt_of_lt_of_le hbb hbel.size
      clear hca
      go_wp2
      go_region_with (go_at_call 56; refine (markText_int _ (k + j) _ (by omega) (by omega) (by omega)).mono ?_; rintro e w1 ⟨rfl, hb1⟩; have ha1 : w1.cell? ⟨b, off + j, none⟩ = some (.string (mt (k + j))) := (hb1.cell (p := ⟨b, off + j, none⟩) (by simpa using hbr)).trans ha)
      all_goals
        go_wp2
        go_roundw
        case rel => exact ⟨j + 1, by omega, by go_num, by go_num, hbel.drew.trans (hb1.mono hbel.size)⟩
        case measure => simp [intOf]; omega
    · go_wp2
      go_ret
      exact ⟨ret_int (by omega), hbel⟩
end Go.Proofs.Ytmcldakdefeepaa
