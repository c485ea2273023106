/- The walk of FnSplitJoin. -/
import Derived.Test.YtmmpcchjalgokaaDst
import Derived.Test.YtmmpcchjalgokaaVcm
import Derived.Test.YtmmpcchjalgokaaSplitString
import Derived.Test.YtmmpcchjalgokaaSjp
namespace Go.Proofs.Ytmmpcchjalgokaa
set_option linter.unusedVariables false
set_option linter.unusedSimpArgs false
open Go.RowKit
theorem less_asym : ∀ a b : List UInt8, Op.bytesLess a b = true → Op.bytesLess b a = false
  | [], [], h => by simp [Op.bytesLess] at h
  | [], _ :: _, _ => by simp [Op.bytesLess]
  | _ :: _, [], h => by simp [Op.bytesLess] at h
  | x :: a, y :: b, h => by
    unfold Op.bytesLess at h ⊢
    simp only [Bool.or_eq_true, Bool.and_eq_true, decide_eq_true_eq, beq_iff_eq] at h
    rcases h with h | ⟨h1, h2⟩
    · have h3 : ¬ y < x := fun h4 => by
        have := UInt8.lt_iff_toNat_lt.1 h
        have := UInt8.lt_iff_toNat_lt.1 h4
        omega
      have h4 : ¬ y = x := fun e => by
        have := UInt8.lt_iff_toNat_lt.1 h
        rw [e] at this
        omega
      simp [h3, h4]
    · subst h1
      have h5 : ¬ x < x := fun h4 => by
        have := UInt8.lt_iff_toNat_lt.1 h4
        omega
      simp [h5, less_asym a b h2]
theorem LessString_impl (a b : ByteArray) (w : World) : Calls Try.prog 12 #[.string a, .string b] w fun e w' => e = .returned (.bool (Op.bytesLess a.toList b.toList)) ∧ w' = w := by
  go_enter Try.func12, Try.ntmps12
  go_wp2_with fail
  go_ret
  exact ⟨rfl, rfl⟩
theorem LessString_spec (a b : ByteArray) (w : World) : Calls Try.prog 13 #[.string a, .string b] w fun e w' => e = .returned (.bool (Op.bytesLess a.toList b.toList)) ∧ w' = w := by
  go_enter Try.func13, Try.ntmps13
  go_wp2_with fail
  go_ret
  exact ⟨rfl, rfl⟩
theorem sep_get (sep : ByteArray) : sepB sep = sep.data.toList.getD 0 0 := by
  unfold sepB
  cases sep.data.toList <;> rfl
theorem sj_facts {s sep : ByteArray} (hs : s.size ≤ 4000) :
    (sep.size = 1 → splitOk s sep = true ∧ joOk (splitR s sep) sep = true ∧ joV (splitR s sep) sep = s) ∧ (sep.size ≠ 1 → splitOk s sep = false ∧ (splitR s sep).length = 0) ∧ (splitR s sep).length ≤ s.size + 1 ∧ ssz (splitR s sep) ≤ s.size + 1 := by
  have hc := cuts_clean (sepB sep) s.size s (Nat.le_refl _)
  by_cases h : sep.size = 1
  · have h1 : splitOk s sep = true := by unfold splitOk; rw [decide_eq_true hs, decide_eq_true h]; rfl
    have h2 : splitR s sep = cuts s (sepB sep) := by unfold splitR; rw [if_pos h1]
    have h3 := jo_cuts h hs
    rw [← sep_get] at h3
    rw [h2]
    refine ⟨fun _ => ⟨h1, h3.1, h3.2⟩, fun h9 => absurd h h9, ?_, ?_⟩
    · have := (cuts_len s (sepB sep)).1; omega
    · unfold ssz; omega
  · have h1 : splitOk s sep = false := by unfold splitOk; rw [decide_eq_false h]; simp
    have h2 : splitR s sep = [] := by unfold splitR; rw [h1]; rfl
    rw [h2]
    exact ⟨fun h9 => absurd h9 h, fun _ => ⟨h1, rfl⟩, by simp, by simp [ssz]⟩
set_option maxRecDepth 100000 in
set_option maxHeartbeats 4000000 in
theorem law_SplitJoin {R0 : Option Addr} {q0 c0 : Nat} {a0 : List Int} (w : World) (ha0 : q0 ≤ maxLen ∧ c0 ≤ maxLen ∧ a0.length = q0 ∧ Rd w w.heap.size 1 R0 q0 (a0.flatMap fun b => [Value.int .u8 b]) ∧ ∀ x ∈ a0, 0 ≤ x ∧ x ≤ 255) :
    Calls Try.prog 3 #[.slice R0 q0 c0] w fun e w' => e = .returned (.bool true) ∧ Below w.heap.size w w' := by
  obtain ⟨m0, _, _, hR0, hl0⟩ := ha0
  have hR : Rd w w.heap.size 1 R0 q0 (bys a0) := hR0
  have HL := Lib.hid hl0
  clear hR0 hl0
  by_cases hbig : (65536 : Int) < (q0 : Int)
  · have hd : decide ((65536 : Int) < (q0 : Int)) = true := by simpa using hbig
    go_enter Try.func3, Try.ntmps3
    go_wp2_with fail
    refine (vBig_any m0).mono ?_
    rintro e w1 ⟨rfl, G⟩
    rw [hd]
    go_wp2_with fail
    go_ret
    exact ⟨rfl, G⟩
  have hd : decide ((65536 : Int) < (q0 : Int)) = false := by simpa using hbig
  go_enter Try.func3, Try.ntmps3
  go_wp2_with fail
  refine (vBig_any m0).mono ?_
  rintro e w1 ⟨rfl, G⟩
  rw [hd]
  go_wp2_with fail
  refine (DrawSplitString_any (hR.on G) HL.out (by omega)).mono ?_
  rintro e w2 ⟨s, sep, hs, hp, rfl, hb⟩
  replace G := G.trans (hb.mono G.size)
  clear hb
  obtain ⟨f1, f2, f3, f4⟩ := sj_facts (s := s) (sep := sep) (by omega)
  have HSI := fun (W : World) => SplitString_impl s sep W (by simp only [maxLen]; omega) (by simp only [maxLen]; omega)
  obtain ⟨L, hL⟩ : ∃ L, splitR s sep = L := ⟨_, rfl⟩
  obtain ⟨ok, hok⟩ : ∃ ok, splitOk s sep = ok := ⟨_, rfl⟩
  rw [hL] at f1 f2 f3 f4 HSI
  rw [hok] at f1 f2 HSI
  have F1 := Lib.hid f1
  have F2 := Lib.hid f2
  have HS := Lib.hid HSI
  clear hL hok f1 f2 HSI
  go_wp2_with fail
  refine (HS.out _).mono ?_
  rintro e w3 ⟨A1, c1, rfl, P0, hb⟩
  have P := own_le P0 (base' := w.heap.size) G.size
  replace G := G.trans (hb.mono G.size)
  clear hb P0 HS
  go_wp2_with fail
  refine (DrawJoinStrings_any (hR.on G) HL.out (by omega)).mono ?_
  rintro e w4 ⟨A2, cp, k, mark, hkc, hk10, hkz, hm2, rfl, O0, hb⟩
  have O := own_le O0 (base' := w.heap.size) G.size
  replace P := own_below P hb
  replace G := G.trans (hb.mono G.size)
  clear hb O0
  go_wp2_with fail
  refine (JoinStrings_impl (l := k) (s := mark) (Rd.of_own O) (by omega) hkc (by omega) (by omega)).mono ?_
  rintro e w5 ⟨rfl, hb⟩
  replace P := own_below P hb
  replace O := own_below O hb
  replace G := G.trans (hb.mono G.size)
  clear hb
  have HJS := fun (W : World) (O : W.ownsRow w.heap.size 9 1 (.slice A2 k.length cp) k.length (strs k)) => JoinStrings_spec (c := cp) (l := k) (s := mark) (Rd.of_own O) (by omega) (by omega) (by omega)
  generalize joV k mark = jv at *
  generalize joOk k mark = jo at *
  have HJ := Lib.hid HJS
  clear HJS
  have v1 : (jv.toList != jv.toList) = false := by simp
  have v2 : (jo != jo) = false := by simp
  go_wp2_with fail
  refine (HJ.out _ O).mono ?_
  rintro e w6 ⟨rfl, hb⟩
  replace P := own_below P hb
  replace G := G.trans (hb.mono G.size)
  clear hb HJ O
  go_wp2_with fail
  refine (DrawLessString_any (hR.on G) HL.out (by omega)).mono ?_
  rintro e w7 ⟨a, b, ha, hb2, rfl, hb⟩
  replace P := own_below P hb
  replace G := G.trans (hb.mono G.size)
  clear hb
  have HAB := less_asym a.toList b.toList
  have HLI := fun (W : World) => LessString_impl a b W
  have HLS := fun (W : World) => LessString_spec a b W
  have HLB := fun (W : World) => LessString_impl b a W
  obtain ⟨p, hp9⟩ : ∃ p, Op.bytesLess a.toList b.toList = p := ⟨_, rfl⟩
  obtain ⟨q, hq9⟩ : ∃ q, Op.bytesLess b.toList a.toList = q := ⟨_, rfl⟩
  rw [hp9] at HAB HLI HLS
  rw [hq9] at HAB HLB
  have H1 := Lib.hid HLI
  have H2 := Lib.hid HLS
  have H3 := Lib.hid HLB
  have H4 := Lib.hid HAB
  clear hp9 hq9 HLI HLS HLB HAB
  have v3 : (p != p) = false := by simp
  go_wp2_with fail
  refine (H1.out _).mono ?_
  rintro e w8 ⟨rfl, rfl⟩
  go_wp2_with fail
  refine (H2.out _).mono ?_
  rintro e w9 ⟨rfl, rfl⟩
  go_wp2_with fail
  refine (H1.out _).mono ?_
  rintro e w9 ⟨rfl, rfl⟩
  cases p
  · skip
    by_cases h1 : sep.size = 1
    · obtain ⟨g1, g2, g3⟩ := F1.out h1
      subst g1
      have v4 : ((sep.size : Int) != 1) = false := by simp; omega
      clear F1 F2 h1
      go_wp2_with fail
      refine (JoinStrings_impl (l := L) (s := sep) (Rd.of_own P) (by omega) (own_cap P) (by omega) (by omega)).mono ?_
      rintro e w10 ⟨rfl, hb⟩
      rw [g2, g3]
      replace G := G.trans (hb.mono G.size)
      have v5 : (s.toList == s.toList) = true := by simp
      go_wp2_with fail
      go_ret
      exact ⟨rfl, G⟩
    · obtain ⟨g1, g2⟩ := F2.out h1
      subst g1
      have v4 : ((sep.size : Int) != 1) = true := by simp; omega
      have v5 : ((L.length : Int) == 0) = true := by rw [g2]; rfl
      clear F1 F2 h1 g2
      go_wp2_with fail
      go_ret
      exact ⟨rfl, G⟩
  · have hq := H4.out rfl
    subst hq
    go_wp2_with fail
    refine (H3.out _).mono ?_
    rintro e w9 ⟨rfl, rfl⟩
    by_cases h1 : sep.size = 1
    · obtain ⟨g1, g2, g3⟩ := F1.out h1
      subst g1
      have v4 : ((sep.size : Int) != 1) = false := by simp; omega
      clear F1 F2 h1
      go_wp2_with fail
      refine (JoinStrings_impl (l := L) (s := sep) (Rd.of_own P) (by omega) (own_cap P) (by omega) (by omega)).mono ?_
      rintro e w10 ⟨rfl, hb⟩
      rw [g2, g3]
      replace G := G.trans (hb.mono G.size)
      have v5 : (s.toList == s.toList) = true := by simp
      go_wp2_with fail
      go_ret
      exact ⟨rfl, G⟩
    · obtain ⟨g1, g2⟩ := F2.out h1
      subst g1
      have v4 : ((sep.size : Int) != 1) = true := by simp; omega
      have v5 : ((L.length : Int) == 0) = true := by rw [g2]; rfl
      clear F1 F2 h1 g2
      go_wp2_with fail
      go_ret
      exact ⟨rfl, G⟩
end Go.Proofs.Ytmmpcchjalgokaa
