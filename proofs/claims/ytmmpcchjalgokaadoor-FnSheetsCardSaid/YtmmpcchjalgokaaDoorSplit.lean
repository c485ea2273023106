/- Contracts: a string split at a byte; slices of strings. -/
import Derived.Test.YtmmpcchjalgokaaDoorCh
import Derived.Test.YtmmpcchjalgokaaDoorStrs
namespace Go.Proofs.YtmmpcchjalgokaaDoor
set_option linter.unusedVariables false
set_option linter.unusedSimpArgs false
open Go.RowKit
/-- Behind k bytes: the parts that are whole, and where the next begins. -/
def cutAt (s : ByteArray) (b : UInt8) : Nat → List ByteArray × Nat
  | 0 => ([], 0)
  | k + 1 => if s.data.toList[k]? = some b then ((cutAt s b k).1 ++ [s.extract (cutAt s b k).2 k], k + 1) else cutAt s b k
def cuts (s : ByteArray) (b : UInt8) : List ByteArray := (cutAt s b s.size).1 ++ [s.extract (cutAt s b s.size).2 s.size]
theorem cutAt_le (s : ByteArray) (b : UInt8) : ∀ k, (cutAt s b k).2 ≤ k ∧ (cutAt s b k).1.length ≤ k
  | 0 => ⟨Nat.le_refl _, Nat.le_refl _⟩
  | k + 1 => by
    have := cutAt_le s b k
    rw [cutAt]; split
    · simp; omega
    · omega
theorem cuts_len (s : ByteArray) (b : UInt8) : (cuts s b).length ≤ s.size + 1 ∧ 1 ≤ (cuts s b).length := by
  have := cutAt_le s b s.size
  simp [cuts]; omega
theorem byte_at (s : ByteArray) (k : Nat) (h : k < s.size) : s.data.toList[k]? = some s[k] := by
  rw [List.getElem?_eq_getElem (by simpa using h)]; rfl
set_option maxHeartbeats 1000000 in
theorem l1Split_any (s : ByteArray) (b : UInt8) (w : World) (hs : s.size ≤ 1048576) :
    Calls Tryd.prog 58 #[.string s, .int .u8 b.toNat] w fun e w' => ∃ A c, e = .returned (.slice A (cuts s b).length c) ∧
      w'.ownsRow w.heap.size 9 1 (.slice A (cuts s b).length c) (cuts s b).length (strs (cuts s b)) ∧ Below w.heap.size w w' := by
  obtain ⟨i0, hi0, hz0, hz1, hz2⟩ := info_parts string_info
  go_enter Tryd.func58, Tryd.ntmps58
  go_wp2
  go_loopw [5, 6, 7] (fun v f i wr => ∃ (k o : _) (q : Nat), k ≤ s.size ∧ i = .int .i64 (k : Nat) ∧ f = .int .i64 q ∧ q ≤ k ∧ o.length ≤ k ∧ Hid (cutAt s b k = (o, q)) ∧ wr.ownsRow w.heap.size 9 1 v o.length (strs o) ∧ Below w.heap.size w wr) (fun _ _ i _ => s.size - (intOf i).toNat)
  case atStart => exact ⟨0, [], 0, Nat.zero_le _, rfl, rfl, Nat.le_refl _, Nat.le_refl _, rfl, World.ownsRow_lit w #[] 0 (Nat.le_refl _) (by simp) rfl, (by repeat (first | exact Below.refl _ _ | refine below_drewN ?_ _ | refine Below.drew ?_ | refine Below.alloc ?_ (by first | omega | (simp; done) | (simp; omega)) _ | refine Below.setCell ?_ (by first | omega | (simp; done) | (simp; omega)) _))⟩
  case round =>
    obtain ⟨k, o, q, hk, rfl, rfl, hqk, hok, HC, hown, hbel⟩ := hrel
    have hsz := hbel.size
    by_cases hlt : k < s.size
    · have hb1 : (s[k].toNat : Int) < 256 := by have := s[k].toNat_lt; omega
      by_cases he : s[k] = b
      · have hbe : ((s[k].toNat : Int) == (b.toNat : Int)) = true := by rw [he]; simp
        have HE := Lib.hid he
        clear he
        go_wp2_with (at_builtin; refine wpList_append_own _ rfl _ _ 40 rfl w.heap.size 9 i0 (.string ByteArray.empty) 1 16 Tryd.underlying40 hi0 hz0 hz1 hz2 rfl (by decide) _ _ _ rfl (hown.alloc _) ⟨wr.heap.size, 0, none⟩ 1 1 [.string (s.extract q k)] rfl rfl ?c1 ?c2 ?c3 ?c4 ?c5 ?_)
        case c1 => exact cell_one_new _ _ _
        case c2 => intro u hu; simp at hu; subst hu; rfl
        case c3 => simp only [maxLen]; omega
        case c4 => omega
        case c5 => simp; omega
        intro v' w1 hown1 hgrow _
        have hbel1 : Below w.heap.size w w1 := (hbel.alloc hsz _).grown hgrow (by first | omega | (simp; done) | (simp; omega)) (fun j hj => (hown.lt j hj).1)
        have e1 : strs o ++ [Value.string (s.extract q k)] = strs (o ++ [s.extract q k]) := by simp [strs]
        rw [e1] at hown1
        clear hown hgrow hbel e1
        go_wp2
        go_roundw
        case rel => exact ⟨k + 1, o ++ [s.extract q k], k + 1, by omega, by go_num, by go_num, by omega, by simp; omega, (by show cutAt s b (k + 1) = _; rw [cutAt, byte_at s k hlt, if_pos (by rw [HE.out]), HC.out]), (by rw [List.length_append]; exact hown1), hbel1⟩
        case measure => simp [intOf]; omega
      · have hbe : ((s[k].toNat : Int) == (b.toNat : Int)) = false := by
          rw [beq_eq_false_iff_ne]; intro h; exact he (UInt8.toNat_inj.1 (by omega))
        have HE := Lib.hid he
        clear he
        go_wp2
        go_roundw
        case rel => exact ⟨k + 1, o, q, by omega, by go_num, rfl, by omega, by omega, (by rw [cutAt, byte_at s k hlt, if_neg (by intro h; exact HE.out (by injection h))]; exact HC), hown, hbel⟩
        case measure => simp [intOf]; omega
    · have hks : k = s.size := by omega
      have HK := Lib.hid hks
      clear hks
      go_wp2_with (at_builtin; refine wpList_append_own _ rfl _ _ 40 rfl w.heap.size 9 i0 (.string ByteArray.empty) 1 16 Tryd.underlying40 hi0 hz0 hz1 hz2 rfl (by decide) _ _ _ rfl (hown.alloc _) ⟨wr.heap.size, 0, none⟩ 1 1 [.string (s.extract q s.size)] rfl rfl ?c1 ?c2 ?c3 ?c4 ?c5 ?_)
      case c1 => exact cell_one_new _ _ _
      case c2 => intro u hu; simp at hu; subst hu; rfl
      case c3 => simp only [maxLen]; omega
      case c4 => omega
      case c5 => simp; omega
      intro v' w1 hown1 hgrow _
      have hbel1 : Below w.heap.size w w1 := (hbel.alloc hsz _).grown hgrow (by first | omega | (simp; done) | (simp; omega)) (fun j hj => (hown.lt j hj).1)
      have e1 : strs o ++ [Value.string (s.extract q s.size)] = strs (cuts s b) := by have := HC.out; rw [HK.out] at this; simp [strs, cuts, this]
      have e2 : o.length + 1 = (cuts s b).length := by have := HC.out; rw [HK.out] at this; simp [cuts, this]
      rw [e1, e2] at hown1
      obtain ⟨A, c, rfl⟩ := own_form hown1
      clear hown hgrow hbel e1 e2
      go_wp2
      go_ret
      exact ⟨A, c, rfl, hown1, hbel1⟩
end Go.Proofs.YtmmpcchjalgokaaDoor
