/- Contracts: l1Read, ParseInt (the program's and the reference's). -/
import Derived.Test.YtmmpcchjalgokaaGreatDoorRead
import Derived.Lib.AtoiTie
import Derived.Lib.Strings
import Derived.Lib.AtoiErrMem
import Derived.Test.YtmmpcchjalgokaaGreatDoorShelf
namespace Go.Proofs.YtmmpcchjalgokaaGreatDoor
set_option linter.unusedVariables false
set_option linter.unusedSimpArgs false
open Go.RowKit
open Go.Lib (decFrom decDigits digitVal decNat)
/-- strconv's sentinel for a text that is no numeral lies as its initialiser lays it. -/
def Syn (w : World) : Prop := ∃ tp p, w.var? Tryz.prog "strconv.ErrSyntax" = some #[.iface tp p]
theorem Syn.on {w w' : World} (h : Syn w) (hb : Below w.heap.size w w') : Syn w' := by
  obtain ⟨tp, p, h⟩ := h
  refine ⟨tp, p, ?_⟩
  unfold World.var? at *
  cases hg : Tryz.prog.globalNamed "strconv.ErrSyntax" with
  | none => simp [hg] at h
  | some g =>
    simp only [hg, Option.bind_some] at h ⊢
    have hlt : g < w.heap.size := by
      rcases Nat.lt_or_ge g w.heap.size with h' | h'
      · exact h'
      · rw [Array.getElem?_eq_none h'] at h; simp at h
    rw [hb.block g hlt]
    exact h
theorem eqb_test (a b : ByteArray) : (a.toList == b.toList) = decide (a = b) := by
  by_cases h : a = b
  · subst h; simp
  · rw [decide_eq_false h]
    rw [beq_eq_false_iff_ne]
    intro e
    exact h (by simpa [Lib.toList_data, ByteArray.ext_iff] using e)
theorem neb_test (a b : ByteArray) : (a.toList != b.toList) = !decide (a = b) := by
  unfold bne
  rw [eqb_test]
theorem digitVal_in {b : UInt8} (h0 : ¬ (b.toNat : Int) < 48) (h1 : ¬ 57 < (b.toNat : Int)) : digitVal b = some (b.toNat - 48) := by
  unfold digitVal
  rw [if_pos (by omega)]
theorem digitVal_out {b : UInt8} (h : (b.toNat : Int) < 48 ∨ 57 < (b.toNat : Int)) : digitVal b = none := by
  unfold digitVal
  rw [if_neg (by omega)]
theorem u8_in (x : Int) (h0 : 0 ≤ x) (h1 : x ≤ 255) : IntKind.u8.wrap x = x := by
  unfold IntKind.wrap
  simp [IntKind.signed, IntKind.bits]
  omega
set_option maxHeartbeats 2000000 in
theorem l1Read_any {s : ByteArray} {w : World} (hs : s.size ≤ 1048576) :
    Calls Tryz.prog 55 #[.string s] w fun e w' => e = .returned (.tuple #[.int .i64 (rdV s), .bool (rdOk s)]) ∧ Below w.heap.size w w' := by
  have HN := Lib.hid (fun h : rdM s = none => rd_none h)
  have HT : rdT s = if rdNeg s = true then s.extract 1 s.size else s := rfl
  have HZ : ∀ m : Nat, rdZ s m = if rdNeg s = true then -(m : Int) else m := fun _ => rfl
  have HM : rdM s = if 1 ≤ (rdT s).size ∧ (rdT s).size ≤ 6 then decFrom 0 (rdT s).data.toList else none := rfl
  by_cases h1 : 1 < s.size
  · have hb0 := byte_at s 0 (by omega)
    by_cases h45 : s[0] = 45
    · have hng : rdNeg s = true := by unfold rdNeg; rw [hb0, h45, decide_eq_true h1]; rfl
      rw [if_pos hng] at HT
      have h45b : ((s[0].toNat : Int) == 45) = true := by rw [h45]; rfl
      clear hb0 h45
      rw [HT] at HM
      clear HT
      have HZ2 : Hid (∀ m : Nat, rdZ s m = (-(m : Int))) := (show ∀ m : Nat, _ from fun m => by rw [HZ, hng]; rfl)
      have ht9 : (s.extract 1 s.size).size = s.size - 1 := by simp
      clear HZ hng
      by_cases h6 : 1 ≤ (s.extract 1 s.size).size ∧ (s.extract 1 s.size).size ≤ 6
      · rw [if_pos h6] at HM
        have hin : insideB ((s.size - 1 : Nat) : Int) 1 6 = true := insideB_iff.2 (by omega)
        have HMH := Lib.hid HM
        obtain ⟨h6a, h6b⟩ := h6
        rw [ht9] at h6a h6b
        clear HM
        go_enter Tryz.func55, Tryz.ntmps55
        go_wp2_with fail
        refine (l1In_any _ _ _ _).mono ?_
        rintro e w1 ⟨rfl, rfl⟩
        rw [hin]
        clear hin
        generalize htt : s.extract 1 s.size = t at *
        clear htt
        go_wp2_with fail
        go_loopw [5, 6] (fun n i wr => ∃ (k m : Nat), k ≤ t.size ∧ i = .int .i64 k ∧ n = .int .i64 m ∧ m ≤ 999999 ∧ Hid (decFrom 0 (t.data.toList.take k) = some m) ∧ Below w.heap.size w wr) (fun _ i _ => t.size - (intOf i).toNat)
        case atStart => exact ⟨0, 0, Nat.zero_le _, rfl, rfl, by omega, rfl, Below.refl _ _⟩
        case round =>
          obtain ⟨k, m, hk, rfl, rfl, hm, HD, G⟩ := hrel
          by_cases hlt : k < t.size
          · have HB := Lib.hid (byte_at t k hlt)
            have HLT := Lib.hid hlt
            by_cases hd0 : (t[k].toNat : Int) < 48
            · have HE := Lib.hid (HN.out (by rw [HMH.out]; exact decFrom_bad _ _ k _ HB.out (digitVal_out (Or.inl hd0))))
              go_wp2_with fail
              go_ret2
              exact ⟨by rw [HE.out.1, HE.out.2]; rfl, G⟩
            · by_cases hd1 : 57 < (t[k].toNat : Int)
              · have HE := Lib.hid (HN.out (by rw [HMH.out]; exact decFrom_bad _ _ k _ HB.out (digitVal_out (Or.inr hd1))))
                go_wp2_with fail
                go_ret2
                exact ⟨by rw [HE.out.1, HE.out.2]; rfl, G⟩
              · obtain ⟨d, hd⟩ : ∃ d : Nat, t[k].toNat = 48 + d := ⟨t[k].toNat - 48, by omega⟩
                have hdv : digitVal t[k] = some d := by rw [digitVal_in hd0 hd1, hd]; congr 1; omega
                have HS := Lib.hid (Lib.decFrom_take _ k 0 m _ _ HD.out HB.out hdv)
                have hm2 : m * 10 + d ≤ 999999 := by
                  have h1 := decFrom_lt _ _ _ HS.out
                  have h2 : (t.data.toList.take (k + 1)).length ≤ 6 := by rw [List.length_take, Array.length_toList]; show min (k + 1) t.size ≤ 6; omega
                  have h3 : 10 ^ (t.data.toList.take (k + 1)).length ≤ 10 ^ 6 := Nat.pow_le_pow_right (by decide) h2
                  omega
                have u1 : IntKind.u8.wrap ((t[k].toNat : Int) - 48) = (d : Int) := by rw [hd, show ((48 + d : Nat) : Int) - 48 = (d : Int) by omega]; exact u8_in _ (by omega) (by omega)
                have u2 : IntKind.i64.wrap (d : Int) = (d : Int) := IntWalk.i64_in _ (by omega)
                have u3 : IntKind.i64.wrap (10 * (m : Int)) = 10 * (m : Int) := IntWalk.i64_in _ (by omega)
                have u4 : IntKind.i64.wrap (10 * (m : Int) + (d : Int)) = 10 * (m : Int) + (d : Int) := IntWalk.i64_in _ (by omega)
                have HU := Lib.hid hd
                clear hdv hd HD HB
                go_wp2_with fail
                go_roundw
                case rel => exact ⟨k + 1, m * 10 + d, HLT.out, by go_num, (by have h9 := HU.out; congr 1; omega), hm2, HS, G⟩
                case measure => have hl9 := HLT.out; simp [intOf]; omega
          · have hke : k = t.size := by omega
            have HR : Hid (rdM s = some m) := (by
              have := HD.out
              rw [hke, List.take_of_length_le (by rw [Array.length_toList]; exact Nat.le_refl _)] at this
              rw [HMH.out, this] : rdM s = some m)
            have hwn : IntKind.i64.wrap (-(m : Int)) = -(m : Int) := IntWalk.i64_in _ (by omega)
            have q1 := neb_test (itoaB (-(m : Int))) s
            have q2 := eqb_test (itoaB (-(m : Int))) s
            by_cases hz : itoaB (-(m : Int)) = s
            · obtain ⟨e1, e2⟩ := rd_some HR.out (by rw [HZ2.out]; exact hz)
              rw [HZ2.out] at e2
              have HE := Lib.hid (And.intro e1 e2)
              rw [decide_eq_true hz] at q1 q2
              rw [Bool.not_true] at q1
              clear hz e1 e2 HD
              go_wp2_with fail
              refine (l1Num_any (by omega) (by omega)).mono ?_
              rintro e w2 ⟨rfl, hb2⟩
              replace G := G.trans (hb2.mono G.size)
              clear hb2
              go_wp2_with fail
              go_ret2
              exact ⟨by rw [HE.out.1, HE.out.2]; rfl, G⟩
            · obtain ⟨e1, e2⟩ := rd_not HR.out (by rw [HZ2.out]; exact hz)
              have HE := Lib.hid (And.intro e1 e2)
              rw [decide_eq_false hz] at q1 q2
              rw [Bool.not_false] at q1
              clear hz e1 e2 HD
              go_wp2_with fail
              refine (l1Num_any (by omega) (by omega)).mono ?_
              rintro e w2 ⟨rfl, hb2⟩
              replace G := G.trans (hb2.mono G.size)
              clear hb2
              go_wp2_with fail
              go_ret2
              exact ⟨by rw [HE.out.1, HE.out.2]; rfl, G⟩
      · rw [if_neg h6] at HM
        have hin : insideB ((s.size - 1 : Nat) : Int) 1 6 = false := insideB_not.2 (by omega)
        obtain ⟨e1, e2⟩ := HN.out HM
        rw [e1, e2]
        clear HM e1 e2 h6
        go_enter Tryz.func55, Tryz.ntmps55
        go_wp2_with fail
        refine (l1In_any _ _ _ _).mono ?_
        rintro e w1 ⟨rfl, rfl⟩
        rw [hin]
        go_wp2_with fail
        go_ret2
        exact ⟨rfl, Below.refl _ _⟩
    · have hng : rdNeg s = false := by
        unfold rdNeg
        rw [hb0, decide_eq_false (p := some s[0] = some (45 : UInt8)) (fun e => h45 (by injection e))]
        simp
      rw [if_neg (by rw [hng]; decide)] at HT
      have h45b : ((s[0].toNat : Int) == 45) = false := by
        rw [beq_eq_false_iff_ne]; intro h; exact h45 (UInt8.toNat_inj.1 (by simpa using (by omega : s[0].toNat = 45)))
      clear hb0 h45
      rw [HT] at HM
      clear HT
      have HZ2 : Hid (∀ m : Nat, rdZ s m = (m : Int)) := (show ∀ m : Nat, _ from fun m => by rw [HZ, hng]; rfl)
      clear HZ hng
      by_cases h6 : 1 ≤ s.size ∧ s.size ≤ 6
      · rw [if_pos h6] at HM
        have hin : insideB (s.size : Int) 1 6 = true := insideB_iff.2 (by omega)
        have HMH := Lib.hid HM
        obtain ⟨h6a, h6b⟩ := h6
        clear HM
        go_enter Tryz.func55, Tryz.ntmps55
        go_wp2_with fail
        refine (l1In_any _ _ _ _).mono ?_
        rintro e w1 ⟨rfl, rfl⟩
        rw [hin]
        clear hin
        go_wp2_with fail
        go_loopw [5, 6] (fun n i wr => ∃ (k m : Nat), k ≤ s.size ∧ i = .int .i64 k ∧ n = .int .i64 m ∧ m ≤ 999999 ∧ Hid (decFrom 0 (s.data.toList.take k) = some m) ∧ Below w.heap.size w wr) (fun _ i _ => s.size - (intOf i).toNat)
        case atStart => exact ⟨0, 0, Nat.zero_le _, rfl, rfl, by omega, rfl, Below.refl _ _⟩
        case round =>
          obtain ⟨k, m, hk, rfl, rfl, hm, HD, G⟩ := hrel
          by_cases hlt : k < s.size
          · have HB := Lib.hid (byte_at s k hlt)
            have HLT := Lib.hid hlt
            by_cases hd0 : (s[k].toNat : Int) < 48
            · have HE := Lib.hid (HN.out (by rw [HMH.out]; exact decFrom_bad _ _ k _ HB.out (digitVal_out (Or.inl hd0))))
              go_wp2_with fail
              go_ret2
              exact ⟨by rw [HE.out.1, HE.out.2]; rfl, G⟩
            · by_cases hd1 : 57 < (s[k].toNat : Int)
              · have HE := Lib.hid (HN.out (by rw [HMH.out]; exact decFrom_bad _ _ k _ HB.out (digitVal_out (Or.inr hd1))))
                go_wp2_with fail
                go_ret2
                exact ⟨by rw [HE.out.1, HE.out.2]; rfl, G⟩
              · obtain ⟨d, hd⟩ : ∃ d : Nat, s[k].toNat = 48 + d := ⟨s[k].toNat - 48, by omega⟩
                have hdv : digitVal s[k] = some d := by rw [digitVal_in hd0 hd1, hd]; congr 1; omega
                have HS := Lib.hid (Lib.decFrom_take _ k 0 m _ _ HD.out HB.out hdv)
                have hm2 : m * 10 + d ≤ 999999 := by
                  have h1 := decFrom_lt _ _ _ HS.out
                  have h2 : (s.data.toList.take (k + 1)).length ≤ 6 := by rw [List.length_take, Array.length_toList]; show min (k + 1) s.size ≤ 6; omega
                  have h3 : 10 ^ (s.data.toList.take (k + 1)).length ≤ 10 ^ 6 := Nat.pow_le_pow_right (by decide) h2
                  omega
                have u1 : IntKind.u8.wrap ((s[k].toNat : Int) - 48) = (d : Int) := by rw [hd, show ((48 + d : Nat) : Int) - 48 = (d : Int) by omega]; exact u8_in _ (by omega) (by omega)
                have u2 : IntKind.i64.wrap (d : Int) = (d : Int) := IntWalk.i64_in _ (by omega)
                have u3 : IntKind.i64.wrap (10 * (m : Int)) = 10 * (m : Int) := IntWalk.i64_in _ (by omega)
                have u4 : IntKind.i64.wrap (10 * (m : Int) + (d : Int)) = 10 * (m : Int) + (d : Int) := IntWalk.i64_in _ (by omega)
                have HU := Lib.hid hd
                clear hdv hd HD HB
                go_wp2_with fail
                go_roundw
                case rel => exact ⟨k + 1, m * 10 + d, HLT.out, by go_num, (by have h9 := HU.out; congr 1; omega), hm2, HS, G⟩
                case measure => have hl9 := HLT.out; simp [intOf]; omega
          · have hke : k = s.size := by omega
            have HR : Hid (rdM s = some m) := (by
              have := HD.out
              rw [hke, List.take_of_length_le (by rw [Array.length_toList]; exact Nat.le_refl _)] at this
              rw [HMH.out, this] : rdM s = some m)
            have hwn : IntKind.i64.wrap (-(m : Int)) = -(m : Int) := IntWalk.i64_in _ (by omega)
            have q1 := neb_test (itoaB (m : Int)) s
            have q2 := eqb_test (itoaB (m : Int)) s
            by_cases hz : itoaB (m : Int) = s
            · obtain ⟨e1, e2⟩ := rd_some HR.out (by rw [HZ2.out]; exact hz)
              rw [HZ2.out] at e2
              have HE := Lib.hid (And.intro e1 e2)
              rw [decide_eq_true hz] at q1 q2
              rw [Bool.not_true] at q1
              clear hz e1 e2 HD
              go_wp2_with fail
              refine (l1Num_any (by omega) (by omega)).mono ?_
              rintro e w2 ⟨rfl, hb2⟩
              replace G := G.trans (hb2.mono G.size)
              clear hb2
              go_wp2_with fail
              go_ret2
              exact ⟨by rw [HE.out.1, HE.out.2]; rfl, G⟩
            · obtain ⟨e1, e2⟩ := rd_not HR.out (by rw [HZ2.out]; exact hz)
              have HE := Lib.hid (And.intro e1 e2)
              rw [decide_eq_false hz] at q1 q2
              rw [Bool.not_false] at q1
              clear hz e1 e2 HD
              go_wp2_with fail
              refine (l1Num_any (by omega) (by omega)).mono ?_
              rintro e w2 ⟨rfl, hb2⟩
              replace G := G.trans (hb2.mono G.size)
              clear hb2
              go_wp2_with fail
              go_ret2
              exact ⟨by rw [HE.out.1, HE.out.2]; rfl, G⟩
      · rw [if_neg h6] at HM
        have hin : insideB (s.size : Int) 1 6 = false := insideB_not.2 (by omega)
        obtain ⟨e1, e2⟩ := HN.out HM
        rw [e1, e2]
        clear HM e1 e2 h6
        go_enter Tryz.func55, Tryz.ntmps55
        go_wp2_with fail
        refine (l1In_any _ _ _ _).mono ?_
        rintro e w1 ⟨rfl, rfl⟩
        rw [hin]
        go_wp2_with fail
        go_ret2
        exact ⟨rfl, Below.refl _ _⟩
  · have hng : rdNeg s = false := by unfold rdNeg; rw [decide_eq_false h1]; rfl
    rw [if_neg (by rw [hng]; decide)] at HT
    rw [HT] at HM
    clear HT
    have HZ2 : Hid (∀ m : Nat, rdZ s m = (m : Int)) := (show ∀ m : Nat, _ from fun m => by rw [HZ, hng]; rfl)
    clear HZ hng
    by_cases h6 : 1 ≤ s.size ∧ s.size ≤ 6
    · rw [if_pos h6] at HM
      have hin : insideB (s.size : Int) 1 6 = true := insideB_iff.2 (by omega)
      have HMH := Lib.hid HM
      obtain ⟨h6a, h6b⟩ := h6
      clear HM
      go_enter Tryz.func55, Tryz.ntmps55
      go_wp2_with fail
      refine (l1In_any _ _ _ _).mono ?_
      rintro e w1 ⟨rfl, rfl⟩
      rw [hin]
      clear hin
      go_wp2_with fail
      go_loopw [5, 6] (fun n i wr => ∃ (k m : Nat), k ≤ s.size ∧ i = .int .i64 k ∧ n = .int .i64 m ∧ m ≤ 999999 ∧ Hid (decFrom 0 (s.data.toList.take k) = some m) ∧ Below w.heap.size w wr) (fun _ i _ => s.size - (intOf i).toNat)
      case atStart => exact ⟨0, 0, Nat.zero_le _, rfl, rfl, by omega, rfl, Below.refl _ _⟩
      case round =>
        obtain ⟨k, m, hk, rfl, rfl, hm, HD, G⟩ := hrel
        by_cases hlt : k < s.size
        · have HB := Lib.hid (byte_at s k hlt)
          have HLT := Lib.hid hlt
          by_cases hd0 : (s[k].toNat : Int) < 48
          · have HE := Lib.hid (HN.out (by rw [HMH.out]; exact decFrom_bad _ _ k _ HB.out (digitVal_out (Or.inl hd0))))
            go_wp2_with fail
            go_ret2
            exact ⟨by rw [HE.out.1, HE.out.2]; rfl, G⟩
          · by_cases hd1 : 57 < (s[k].toNat : Int)
            · have HE := Lib.hid (HN.out (by rw [HMH.out]; exact decFrom_bad _ _ k _ HB.out (digitVal_out (Or.inr hd1))))
              go_wp2_with fail
              go_ret2
              exact ⟨by rw [HE.out.1, HE.out.2]; rfl, G⟩
            · obtain ⟨d, hd⟩ : ∃ d : Nat, s[k].toNat = 48 + d := ⟨s[k].toNat - 48, by omega⟩
              have hdv : digitVal s[k] = some d := by rw [digitVal_in hd0 hd1, hd]; congr 1; omega
              have HS := Lib.hid (Lib.decFrom_take _ k 0 m _ _ HD.out HB.out hdv)
              have hm2 : m * 10 + d ≤ 999999 := by
                have h1 := decFrom_lt _ _ _ HS.out
                have h2 : (s.data.toList.take (k + 1)).length ≤ 6 := by rw [List.length_take, Array.length_toList]; show min (k + 1) s.size ≤ 6; omega
                have h3 : 10 ^ (s.data.toList.take (k + 1)).length ≤ 10 ^ 6 := Nat.pow_le_pow_right (by decide) h2
                omega
              have u1 : IntKind.u8.wrap ((s[k].toNat : Int) - 48) = (d : Int) := by rw [hd, show ((48 + d : Nat) : Int) - 48 = (d : Int) by omega]; exact u8_in _ (by omega) (by omega)
              have u2 : IntKind.i64.wrap (d : Int) = (d : Int) := IntWalk.i64_in _ (by omega)
              have u3 : IntKind.i64.wrap (10 * (m : Int)) = 10 * (m : Int) := IntWalk.i64_in _ (by omega)
              have u4 : IntKind.i64.wrap (10 * (m : Int) + (d : Int)) = 10 * (m : Int) + (d : Int) := IntWalk.i64_in _ (by omega)
              have HU := Lib.hid hd
              clear hdv hd HD HB
              go_wp2_with fail
              go_roundw
              case rel => exact ⟨k + 1, m * 10 + d, HLT.out, by go_num, (by have h9 := HU.out; congr 1; omega), hm2, HS, G⟩
              case measure => have hl9 := HLT.out; simp [intOf]; omega
        · have hke : k = s.size := by omega
          have HR : Hid (rdM s = some m) := (by
            have := HD.out
            rw [hke, List.take_of_length_le (by rw [Array.length_toList]; exact Nat.le_refl _)] at this
            rw [HMH.out, this] : rdM s = some m)
          have hwn : IntKind.i64.wrap (-(m : Int)) = -(m : Int) := IntWalk.i64_in _ (by omega)
          have q1 := neb_test (itoaB (m : Int)) s
          have q2 := eqb_test (itoaB (m : Int)) s
          by_cases hz : itoaB (m : Int) = s
          · obtain ⟨e1, e2⟩ := rd_some HR.out (by rw [HZ2.out]; exact hz)
            rw [HZ2.out] at e2
            have HE := Lib.hid (And.intro e1 e2)
            rw [decide_eq_true hz] at q1 q2
            rw [Bool.not_true] at q1
            clear hz e1 e2 HD
            go_wp2_with fail
            refine (l1Num_any (by omega) (by omega)).mono ?_
            rintro e w2 ⟨rfl, hb2⟩
            replace G := G.trans (hb2.mono G.size)
            clear hb2
            go_wp2_with fail
            go_ret2
            exact ⟨by rw [HE.out.1, HE.out.2]; rfl, G⟩
          · obtain ⟨e1, e2⟩ := rd_not HR.out (by rw [HZ2.out]; exact hz)
            have HE := Lib.hid (And.intro e1 e2)
            rw [decide_eq_false hz] at q1 q2
            rw [Bool.not_false] at q1
            clear hz e1 e2 HD
            go_wp2_with fail
            refine (l1Num_any (by omega) (by omega)).mono ?_
            rintro e w2 ⟨rfl, hb2⟩
            replace G := G.trans (hb2.mono G.size)
            clear hb2
            go_wp2_with fail
            go_ret2
            exact ⟨by rw [HE.out.1, HE.out.2]; rfl, G⟩
    · rw [if_neg h6] at HM
      have hin : insideB (s.size : Int) 1 6 = false := insideB_not.2 (by omega)
      obtain ⟨e1, e2⟩ := HN.out HM
      rw [e1, e2]
      clear HM e1 e2 h6
      go_enter Tryz.func55, Tryz.ntmps55
      go_wp2_with fail
      refine (l1In_any _ _ _ _).mono ?_
      rintro e w1 ⟨rfl, rfl⟩
      rw [hin]
      go_wp2_with fail
      go_ret2
      exact ⟨rfl, Below.refl _ _⟩
set_option maxHeartbeats 1000000 in
theorem ParseInt_impl {s : ByteArray} {w : World} (hs : s.size ≤ 1048576) (T : Tab w) (Y : Syn w) :
    Calls Tryz.prog 50 #[.string s] w fun e w' => e = .returned (.tuple #[.int .i64 (rdV s), .bool (rdOk s)]) ∧ Below w.heap.size w w' := by
  by_cases h7 : 7 < s.size
  · have e1 := rd_long h7
    rw [rd_val0 e1, e1]
    clear e1
    go_enter Tryz.func50, Tryz.ntmps50
    go_wp2_with fail
    go_ret2
    exact ⟨rfl, Below.refl _ _⟩
  · cases ha : Lib.atoi s.data.toList with
    | none =>
      have e1 := rd_noatoi ha
      rw [rd_val0 e1, e1]
      obtain ⟨tp, p, hv⟩ := Y
      have HA := Any.strconv_Atoi_syntax_var Tryz.laysC172 s (by omega) ((Lib.atoiAll_short _ (by rw [Array.length_toList]; show s.size ≤ 18; omega)).trans (by rw [ha]; rfl)) tp p w hv
      clear e1 hv ha
      go_enter Tryz.func50, Tryz.ntmps50
      go_wp2_with fail
      refine HA.mono ?_
      rintro e w1 ⟨N, rfl, _, _, hb⟩
      clear HA
      go_wp2_with fail
      go_ret2
      exact ⟨rfl, hb⟩
    | some v =>
      have HA := Tryz.strconv_Atoi s v (by omega) ha w
      have hi := inside_any v (-999999) 999999
      have HR := rd_iff ha
      have HV := rd_val ha
      clear ha Y
      cases hin : insideB v (-999999) 999999
      · rw [hin] at HR hi
        have HR' : rdOk s = false := HR
        rw [rd_val0 HR', HR']
        clear HR HV HR' hin
        go_enter Tryz.func50, Tryz.ntmps50
        go_wp2_with fail
        refine HA.mono ?_
        rintro e w1 ⟨rfl, t, rfl⟩
        have hb := Lib.bytesWorld_below w 5 t
        clear HA
        generalize Lib.bytesWorld w 5 t = w1 at *
        go_wp2_with fail
        refine (hi _).mono ?_
        rintro e w2 ⟨rfl, rfl⟩
        go_wp2_with fail
        go_ret2
        exact ⟨rfl, hb⟩
      · have hb9 := insideB_iff.1 hin
        have q1 := neb_test (itoaB v) s
        have q2 := eqb_test (itoaB v) s
        rw [hin] at HR hi
        cases hz : decide (itoaB v = s)
        · rw [hz] at HR q1 q2
          rw [Bool.not_false] at q1
          have HR' : rdOk s = false := HR
          rw [rd_val0 HR', HR']
          clear HR HV HR' hin hz
          go_enter Tryz.func50, Tryz.ntmps50
          go_wp2_with fail
          refine HA.mono ?_
          rintro e w1 ⟨rfl, t, rfl⟩
          have hb := Lib.bytesWorld_below w 5 t
          clear HA
          generalize Lib.bytesWorld w 5 t = w1 at *
          go_wp2_with fail
          refine (hi _).mono ?_
          rintro e w2 ⟨rfl, rfl⟩
          go_wp2_with fail
          refine (Itoa_any (by omega) (by omega) (T.on hb)).mono ?_
          rintro e w3 ⟨rfl, hb3⟩
          replace hb := hb.trans (hb3.mono hb.size)
          go_wp2_with fail
          go_ret2
          exact ⟨rfl, hb⟩
        · rw [hz] at HR q1 q2
          rw [Bool.not_true] at q1
          have HR' : rdOk s = true := HR
          rw [HV HR', HR']
          clear HR HV HR' hin hz
          go_enter Tryz.func50, Tryz.ntmps50
          go_wp2_with fail
          refine HA.mono ?_
          rintro e w1 ⟨rfl, t, rfl⟩
          have hb := Lib.bytesWorld_below w 5 t
          clear HA
          generalize Lib.bytesWorld w 5 t = w1 at *
          go_wp2_with fail
          refine (hi _).mono ?_
          rintro e w2 ⟨rfl, rfl⟩
          go_wp2_with fail
          refine (Itoa_any (by omega) (by omega) (T.on hb)).mono ?_
          rintro e w3 ⟨rfl, hb3⟩
          replace hb := hb.trans (hb3.mono hb.size)
          go_wp2_with fail
          go_ret2
          exact ⟨rfl, hb⟩
end Go.Proofs.YtmmpcchjalgokaaGreatDoor
