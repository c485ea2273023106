/- Contracts: SplitString of the program and of the reference. -/
import Derived.Test.YtmmpcchjalgokaaSplit
namespace Go.Proofs.Ytmmpcchjalgokaa
set_option linter.unusedVariables false
set_option linter.unusedSimpArgs false
open Go.RowKit
def sepB (sep : ByteArray) : UInt8 := sep.data.toList.headD 0
theorem sepB_at (sep : ByteArray) (h : 0 < sep.size) : sep[0] = sepB sep := by
  have h1 := byte_at sep 0 h
  unfold sepB
  cases hs : sep.data.toList with
  | nil => rw [hs] at h1; simp at h1
  | cons a r => rw [hs] at h1; simp at h1; simp [h1]
def splitOk (s sep : ByteArray) : Bool := decide (s.size ≤ 4000) && decide (sep.size = 1)
def splitR (s sep : ByteArray) : List ByteArray := if splitOk s sep then cuts s (sepB sep) else []
set_option maxHeartbeats 1000000 in
theorem SplitString_impl (s sep : ByteArray) (w : World) (hs : s.size ≤ maxLen) (hp : sep.size ≤ maxLen) :
    Calls Try.prog 7 #[.string s, .string sep] w fun e w' => ∃ A c, e = .returned (.tuple #[.slice A (splitR s sep).length c, .bool (splitOk s sep)]) ∧
      w'.ownsRow w.heap.size 9 1 (.slice A (splitR s sep).length c) (splitR s sep).length (strs (splitR s sep)) ∧ Below w.heap.size w w' := by
  unfold maxLen at hs hp
  obtain ⟨i0, hi0, hz0, hz1, hz2⟩ := info_parts string_info
  by_cases h1 : (4000 : Int) < (s.size : Int)
  · have e1 : splitOk s sep = false := by simp [splitOk]; omega
    have e2 : splitR s sep = [] := by simp [splitR, e1]
    rw [e1, e2]
    clear e1 e2
    go_enter Try.func7, Try.ntmps7
    go_wp2
    go_ret2
    exact ⟨none, 0, rfl, World.ownsRow_nil _ _ _ _, Below.refl _ _⟩
  · by_cases h2 : sep.size = 1
    · have e1 : splitOk s sep = true := by simp [splitOk]; omega
      have e2 : splitR s sep = cuts s (sepB sep) := by simp [splitR, e1]
      have r2 : ((sep.size : Int) != 1) = false := by simp; omega
      rw [e1, e2]
      have H2 := Lib.hid h2
      have hp0 : 0 < sep.size := by omega
      have hsep := Lib.hid (sepB_at sep hp0)
      clear e1 e2 h2
      generalize sepB sep = b at *
      go_enter Try.func7, Try.ntmps7
      go_wp2
      go_loopw [6, 7, 8] (fun v f i wr => ∃ (k o : _) (q : Nat), k ≤ s.size ∧ i = .int .i64 (k : Nat) ∧ f = .int .i64 q ∧ q ≤ k ∧ o.length ≤ k ∧ Hid (cutAt s b k = (o, q)) ∧ wr.ownsRow w.heap.size 9 1 v o.length (strs o) ∧ Below w.heap.size w wr) (fun _ _ i _ => s.size - (intOf i).toNat)
      case atStart => exact ⟨0, [], 0, Nat.zero_le _, rfl, rfl, Nat.le_refl _, Nat.le_refl _, rfl, World.ownsRow_lit w #[] 0 (Nat.le_refl _) (by simp) rfl, (by repeat (first | exact Below.refl _ _ | refine below_drewN ?_ _ | refine Below.drew ?_ | refine Below.alloc ?_ (by first | omega | (simp; done) | (simp; omega)) _ | refine Below.setCell ?_ (by first | omega | (simp; done) | (simp; omega)) _))⟩
      case round =>
        obtain ⟨k, o, q, hk, rfl, rfl, hqk, hok, HC, hown, hbel⟩ := hrel
        have hsz := hbel.size
        by_cases hlt : k < s.size
        · have hb1 : (s[k].toNat : Int) < 256 := by have := s[k].toNat_lt; omega
          have hb2 : (sep[0].toNat : Int) < 256 := by have := sep[0].toNat_lt; omega
          by_cases he : s[k] = b
          · have hbe : ((s[k].toNat : Int) == (sep[0].toNat : Int)) = true := by rw [he, hsep.out]; simp
            have HE := Lib.hid he
            clear he
            go_wp2
            go_quiet (fail)
            have hown := hown.drew
            go_wp2_with (at_builtin; refine wpList_append_own _ rfl _ _ 26 rfl w.heap.size 9 i0 (.string ByteArray.empty) 1 16 Try.underlying26 hi0 hz0 hz1 hz2 rfl (by decide) _ _ _ rfl (((show (wr.drewN nq).ownsRow w.heap.size 9 1 _ o.length (strs o) from hown)).alloc _) ⟨wr.heap.size, 0, none⟩ 1 1 [.string (s.extract q k)] rfl rfl ?c1 ?c2 ?c3 ?c4 ?c5 ?_)
            case c1 => exact cell_one_new (wr.drewN nq) _ _
            case c2 => intro u hu; simp at hu; subst hu; rfl
            case c3 => simp only [maxLen]; omega
            case c4 => omega
            case c5 => simp; omega
            intro v' w1 hown1 hgrow _
            have hbel1 : Below w.heap.size w w1 := ((below_drewN hbel nq).alloc hsz _).grown hgrow (by first | omega | (simp; done) | (simp; omega)) (fun j hj => (hown.lt j hj).1)
            have e1 : strs o ++ [Value.string (s.extract q k)] = strs (o ++ [s.extract q k]) := by simp [strs]
            rw [e1] at hown1
            clear hown hgrow hbel e1
            go_wp2
            go_roundw
            case rel => exact ⟨k + 1, o ++ [s.extract q k], k + 1, by omega, by go_num, by go_num, by omega, by simp; omega, (by show cutAt s b (k + 1) = _; rw [cutAt, byte_at s k hlt, if_pos (by rw [HE.out]), HC.out]), (by rw [List.length_append]; exact hown1), hbel1⟩
            case measure => simp [intOf]; omega
          · have hbe : ((s[k].toNat : Int) == (sep[0].toNat : Int)) = false := by
              rw [hsep.out, beq_eq_false_iff_ne]; intro h; exact he (UInt8.toNat_inj.1 (by omega))
            have HE := Lib.hid he
            clear he
            go_wp2
            go_quiet (fail)
            go_wp2
            go_roundw
            case rel => exact ⟨k + 1, o, q, by omega, by go_num, rfl, by omega, by omega, (by show cutAt s b (k + 1) = _; rw [cutAt, byte_at s k hlt, if_neg (by intro h; exact HE.out (by injection h))]; exact HC), hown, below_drewN hbel _⟩
            case measure => simp [intOf]; omega
        · have hks : k = s.size := by omega
          have HK := Lib.hid hks
          clear hks
          go_wp2_with (at_builtin; refine wpList_append_own _ rfl _ _ 26 rfl w.heap.size 9 i0 (.string ByteArray.empty) 1 16 Try.underlying26 hi0 hz0 hz1 hz2 rfl (by decide) _ _ _ rfl (hown.alloc _) ⟨wr.heap.size, 0, none⟩ 1 1 [.string (s.extract q s.size)] rfl rfl ?c1 ?c2 ?c3 ?c4 ?c5 ?_)
          case c1 => exact cell_one_new _ _ _
          case c2 => intro u hu; simp at hu; subst hu; rfl
          case c3 => simp only [maxLen]; omega
          case c4 => omega
          case c5 => simp; omega
          intro v' w1 hown1 hgrow _
          have hbel1 : Below w.heap.size w w1 := (hbel.alloc hsz _).grown hgrow (by first | omega | (simp; done) | (simp; omega)) (fun j hj => (hown.lt j hj).1)
          have e1 : strs o ++ [Value.string (s.extract q s.size)] = strs (cuts s b) := by have := HC.out; rw [HK.out] at this; simp [strs, cuts, this]
          have e2 : o.length + 1 = (cuts s b).length := by have := HC.out; rw [HK.out] at this; simp [cuts, this]
          rw [e1, e2] at hown1
          obtain ⟨A, c, rfl⟩ := own_form hown1
          clear hown hgrow hbel e1 e2
          go_wp2
          go_ret2
          exact ⟨A, c, rfl, hown1, hbel1⟩
    · have e1 : splitOk s sep = false := by simp [splitOk]; omega
      have e2 : splitR s sep = [] := by simp [splitR, e1]
      have r2 : ((sep.size : Int) != 1) = true := by simp; omega
      rw [e1, e2]
      clear e1 e2
      go_enter Try.func7, Try.ntmps7
      go_wp2
      go_ret2
      exact ⟨none, 0, rfl, World.ownsRow_nil _ _ _ _, Below.refl _ _⟩
end Go.Proofs.Ytmmpcchjalgokaa
