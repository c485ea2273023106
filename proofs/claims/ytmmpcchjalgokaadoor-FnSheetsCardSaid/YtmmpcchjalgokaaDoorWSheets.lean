/- The walk of FnSheets. -/
import Derived.Test.YtmmpcchjalgokaaDoorDrh
import Derived.Test.YtmmpcchjalgokaaDoorRcm
import Derived.Test.YtmmpcchjalgokaaDoorFsp
import Derived.Test.YtmmpcchjalgokaaDoorCnt
import Derived.Test.YtmmpcchjalgokaaDoorSid
import Derived.Test.YtmmpcchjalgokaaDoorFmo
import Derived.Test.YtmmpcchjalgokaaDoorSplit
namespace Go.Proofs.YtmmpcchjalgokaaDoor
set_option linter.unusedVariables false
set_option linter.unusedSimpArgs false
open Go.RowKit
def sumI : List Int → Int
  | [] => 0
  | a :: l => a + sumI l
theorem sumI_snoc : ∀ (l : List Int) (x : Int), sumI (l ++ [x]) = sumI l + x
  | [], x => by simp [sumI]
  | a :: l, x => by rw [List.cons_append, sumI, sumI, sumI_snoc l x]; omega
theorem sumI_bd {l : List Int} (h : ∀ x ∈ l, 0 ≤ x ∧ x ≤ 1000) : 0 ≤ sumI l ∧ sumI l ≤ 1000 * (l.length : Int) := by
  induction l with
  | nil => simp [sumI]
  | cons a l ih =>
    have h1 := h a (List.mem_cons_self ..)
    have h2 := ih (fun x hx => h x (List.mem_cons_of_mem _ hx))
    rw [sumI, List.length_cons]
    omega
theorem rSum_any {A : Option Addr} {n c : Nat} {xs : List Int} {w : World} (hA : Rd w w.heap.size 1 A n (ints xs)) (hn : n ≤ 1000) (hb : ∀ x ∈ xs, 0 ≤ x ∧ x ≤ 1000) :
    Calls Tryd.prog 19 #[.slice A n c] w fun e w' => e = .returned (.int .i64 (sumI xs)) ∧ Below w.heap.size w w' := by
  have HX := Lib.hid (show xs.length = n from hA.len)
  have HB := Lib.hid hb
  clear hb
  go_enter Tryd.func19, Tryd.ntmps19
  go_wp2_with fail
  go_loopw [3, 4] (fun s i wr => ∃ k : Nat, k ≤ n ∧ i = .int .i64 k ∧ s = .int .i64 (sumI (xs.take k)) ∧ Below w.heap.size w wr) (fun _ i _ => n - (intOf i).toNat)
  case atStart => exact ⟨0, Nat.zero_le _, rfl, rfl, Below.refl _ _⟩
  case round =>
    obtain ⟨k, hk, rfl, rfl, G⟩ := hrel
    by_cases hlt : k < n
    · obtain ⟨bl, off, rfl, hbl, hca⟩ := hA.2 (by omega)
      have kx : k < xs.length := by rw [HX.out]; exact hlt
      have cz := (G.cell (p := ⟨bl, off + k, none⟩) hbl).trans (hca k (.int .i64 xs[k]) (ints_get kx))
      have hx := HB.out _ (List.getElem_mem kx)
      have hs := sumI_bd (l := xs.take k) (fun x hx => HB.out x (List.mem_of_mem_take hx))
      have hl : (xs.take k).length ≤ 1000 := by rw [List.length_take]; omega
      have HE : Hid (sumI (xs.take (k + 1)) = sumI (xs.take k) + xs[k]) := by
        show _ = _
        rw [List.take_succ_eq_append_getElem kx, sumI_snoc]
      generalize xs[k] = x at *
      generalize sumI (xs.take k) = s0 at *
      have hp0 : IntKind.i64.wrap (s0 + x) = s0 + x := IntWalk.i64_in _ (by omega)
      have hp1 : IntKind.i64.wrap ((k : Int) + 1) = (k : Int) + 1 := IntWalk.i64_in _ (by omega)
      clear hca
      go_wp2_with fail
      go_roundw
      case rel => exact ⟨k + 1, by omega, by go_num, by rw [HE.out], G⟩
      case measure => simp [intOf]; omega
    · have HK : Hid (xs.take k = xs) := List.take_of_length_le (by rw [HX.out]; omega)
      rw [HK.out]
      go_wp2_with fail
      go_ret
      exact ⟨rfl, G⟩
theorem cfL_bd {l : List Ft} (h : l.length ≤ 1000) : ∀ x ∈ cfL l, 0 ≤ x ∧ x ≤ 1000 := by
  intro x hx
  unfold cfL at hx
  simp only [List.mem_cons, List.not_mem_nil, or_false] at hx
  rcases hx with rfl | rfl | rfl | rfl | rfl
  · have := cfE_le l 0; omega
  · have := cfE_le l 1; omega
  · have := cfE_le l 2; omega
  · have := cfE_le l 3; omega
  · have := cfE_le l 4; omega
theorem ctR_bd {l : List Ft} (h : l.length ≤ 1000) : ∀ x ∈ ctR l, 0 ≤ x ∧ x ≤ 1000 := by
  unfold ctR
  split
  · exact cfL_bd h
  · intro x hx; cases hx
theorem ctR_sum {l : List Ft} (h : okFts l = true) : sumI (ctR l) = (l.length : Int) := by
  obtain ⟨e, hs⟩ := ct_sum h
  rw [e]
  unfold cfL
  simp only [sumI]
  omega
theorem shV_size (l : List Ft) : (shV l).size ≤ 4000 := by
  cases h : shOk l
  · rw [sh_no h]; decide
  · have h1 := okFts_iff.1 (sh_ok h)
    rw [sh_v h]
    have := shK_size (l := l) l.length (by omega) (fun j hj => by rw [ftA_get hj]; exact h1.2 _ (List.getElem_mem hj))
    omega
def cntK (s : ByteArray) (k : Nat) : Nat := (s.data.toList.take k).count 10
theorem cntK_le (s : ByteArray) (k : Nat) : cntK s k ≤ k := by
  unfold cntK
  have h1 := List.count_le_length (a := (10 : UInt8)) (l := s.data.toList.take k)
  rw [List.length_take] at h1
  omega
theorem cntK_next {s : ByteArray} {k : Nat} (hk : k < s.size) : cntK s (k + 1) = cntK s k + (if s[k] = 10 then 1 else 0) := by
  unfold cntK
  have hl : k < s.data.toList.length := hk
  have e : s.data.toList[k]'hl = s[k] := by
    have := byte_at s k hk
    rw [List.getElem?_eq_getElem hl] at this
    exact Option.some.inj this
  rw [List.take_succ_eq_append_getElem hl, List.count_append, e]
  by_cases h : s[k] = 10
  · simp [h]
  · simp [h, List.count_cons]
theorem cntK_all (s : ByteArray) : cntK s s.size = cnt10 s := by
  unfold cntK cnt10
  have h : s.data.toList.length ≤ s.size := Nat.le_refl _
  rw [List.take_of_length_le h]
set_option maxRecDepth 100000 in
set_option maxHeartbeats 8000000 in
theorem law_Sheets {R0 : Option Addr} {q0 c0 : Nat} {a0 : List Int} (w : World) (ha0 : q0 ≤ maxLen ∧ c0 ≤ maxLen ∧ a0.length = q0 ∧ Rd w w.heap.size 1 R0 q0 (a0.flatMap fun b => [Value.int .u8 b]) ∧ ∀ x ∈ a0, 0 ≤ x ∧ x ≤ 255) (TF : Tab w ∧ Fams w) :
    Calls Tryd.prog 4 #[.slice R0 q0 c0] w fun e w' => e = .returned (.bool true) ∧ Below w.heap.size w w' := by
  obtain ⟨m0, _, _, hR0, hl0⟩ := ha0
  obtain ⟨TA, FA⟩ := TF
  have hR : Rd w w.heap.size 1 R0 q0 (bys a0) := hR0
  have HL := Lib.hid hl0
  clear hR0 hl0
  by_cases hbig : (65536 : Int) < (q0 : Int)
  · have hd : decide ((65536 : Int) < (q0 : Int)) = true := by simpa using hbig
    go_enter Tryd.func4, Tryd.ntmps4
    go_wp2_with fail
    refine (rBig_any m0).mono ?_
    rintro e w1 ⟨rfl, G⟩
    rw [hd]
    go_wp2_with fail
    go_ret
    exact ⟨rfl, G⟩
  have hd : decide ((65536 : Int) < (q0 : Int)) = false := by simpa using hbig
  go_enter Tryd.func4, Tryd.ntmps4
  go_wp2_with fail
  refine (rBig_any m0).mono ?_
  rintro e w1 ⟨rfl, G⟩
  rw [hd]
  go_wp2_with fail
  refine (DrawSheetText_any (hR.on G) HL.out (by omega)).mono ?_
  rintro e w2 ⟨A, cp, l, rfl, F0, hb⟩
  have HF := Lib.hid (F0.le (base' := w.heap.size) G.size)
  replace G := G.trans (hb.mono G.size)
  clear hb F0
  have hl30 := HF.out.2.1
  have HSM : Hid (∀ r ∈ l, Ft.Ok r) := (show ∀ r ∈ l, Ft.Ok r from fun r hr => (HF.out.2.2.1 r hr).ok)
  have H1 : Hid (∀ (W : World), FtsAt W w.heap.size A cp l → Tab W → Calls Tryd.prog 14 #[.slice A l.length cp] W fun e w' => e = .returned (.tuple #[.string (shV l), .bool (shOk l)]) ∧ Below W.heap.size W w') := (fun W h t => SheetText_impl (Rd.of_own h.2.2.2) (by have := h.2.1; omega) h.1 t : ∀ (W : World), _)
  have H2 : Hid (∀ (W : World), FtsAt W w.heap.size A cp l → Calls Tryd.prog 15 #[.slice A l.length cp] W fun e w' => e = .returned (.tuple #[.string (shV l), .bool (shOk l)]) ∧ Below W.heap.size W w') := (fun W h => SheetText_spec (Rd.of_own h.2.2.2) (by have := h.2.1; omega) h.1 : ∀ (W : World), _)
  have H3 : Hid (∀ (W : World), FtsAt W w.heap.size A cp l → Calls Tryd.prog 16 #[.slice A l.length cp] W fun e w' => ∃ A cp, e = .returned (.tuple #[.slice A (ctR l).length cp, .bool (okFts l)]) ∧ w'.ownsRow W.heap.size 3 1 (.slice A (ctR l).length cp) (ctR l).length (ints (ctR l)) ∧ Below W.heap.size W w') := (fun W h => CountFamilies_impl (Rd.of_own h.2.2.2) (by have := h.2.1; omega) h.1 HSM.out : ∀ (W : World), _)
  have H4 : Hid (∀ (W : World), FtsAt W w.heap.size A cp l → Calls Tryd.prog 17 #[.slice A l.length cp] W fun e w' => ∃ A cp, e = .returned (.tuple #[.slice A (ctR l).length cp, .bool (okFts l)]) ∧ w'.ownsRow W.heap.size 3 1 (.slice A (ctR l).length cp) (ctR l).length (ints (ctR l)) ∧ Below W.heap.size W w') := (fun W h => CountFamilies_spec (Rd.of_own h.2.2.2) (by have := h.2.1; omega) h.1 HSM.out : ∀ (W : World), _)
  have F1 : Hid (shOk l = true → okFts l = true) := (fun h => sh_ok h : shOk l = true → okFts l = true)
  have F2 : Hid (okFts l = true → sumI (ctR l) = (l.length : Int)) := (fun h => ctR_sum h : okFts l = true → _)
  have F3 : Hid (shOk l = true → cnt10 (shV l) = l.length) := (fun h => sh_lines h : shOk l = true → _)
  have F4 : Hid (∀ x ∈ ctR l, 0 ≤ x ∧ x ≤ 1000) := (ctR_bd (by omega) : ∀ x ∈ ctR l, 0 ≤ x ∧ x ≤ 1000)
  have hcl := ctR_b l
  have hsz := shV_size l
  generalize ctR l = ct at *
  generalize shV l = S at *
  generalize shOk l = so at *
  generalize okFts l = ok at *
  clear HSM
  have v1 : (S.toList != S.toList) = false := by simp
  have v2 : (so != so) = false := by simp
  have v3 : (ok != ok) = false := by simp
  generalize hll : l.length = ll at *
  clear hll
  go_wp2_with fail
  refine (H1.out _ HF.out (TA.on G)).mono ?_
  rintro e w3 ⟨rfl, hb⟩
  replace HF := Lib.hid (HF.out.on hb)
  replace G := G.trans (hb.mono G.size)
  clear hb
  go_wp2_with fail
  refine (H2.out _ HF.out).mono ?_
  rintro e w4 ⟨rfl, hb⟩
  replace HF := Lib.hid (HF.out.on hb)
  replace G := G.trans (hb.mono G.size)
  clear hb
  go_wp2_with fail
  refine (H3.out _ HF.out).mono ?_
  rintro e w5 ⟨A1, c1, rfl, P0, hb⟩
  have P := own_le P0 (base' := w.heap.size) G.size
  clear P0
  replace HF := Lib.hid (HF.out.on hb)
  replace G := G.trans (hb.mono G.size)
  clear hb
  go_wp2_with fail
  refine (H4.out _ HF.out).mono ?_
  rintro e w6 ⟨A2, c2, rfl, Q0, hb⟩
  have Q := own_le Q0 (base' := w.heap.size) G.size
  clear Q0
  replace P := own_below P hb
  replace HF := Lib.hid (HF.out.on hb)
  replace G := G.trans (hb.mono G.size)
  clear hb
  clear H1 H2 H3 H4
  go_upto_region 10 with (fail)
  go_cut [81] (fun z wx => z = .bool false ∧ Below w.heap.size w wx)
  case first =>
    go_wp2_with fail
    refine (rInts_b (Rd.of_own P) (Rd.of_own Q) (by simp only [maxLen]; omega)).mono ?_
    rintro e w7 ⟨rfl, hb⟩
    replace P := own_below P hb
    replace G := G.trans (hb.mono G.size)
    clear hb Q
    cases ok
    · cases so
      · go_wp2_with fail
        go_meet
        exact ⟨rfl, G⟩
      · exact absurd (F1.out rfl) (by decide)
    · have e2 := F2.out rfl
      have v9 : ((ll : Int) != (ll : Int)) = false := by simp
      have HSU := rSum_any (c := c1) (Rd.of_own P) (by omega) F4.out
      rw [e2] at HSU
      have HSH := Lib.hid HSU
      clear HSU e2
      cases so
      · go_wp2_with fail
        refine HSH.out.mono ?_
        rintro e w8 ⟨rfl, hb⟩
        replace G := G.trans (hb.mono G.size)
        go_wp2_with fail
        go_meet
        exact ⟨rfl, G⟩
      · go_wp2_with fail
        refine HSH.out.mono ?_
        rintro e w8 ⟨rfl, hb⟩
        replace G := G.trans (hb.mono G.size)
        go_wp2_with fail
        go_meet
        exact ⟨rfl, G⟩
  case rest =>
  obtain ⟨rfl, G⟩ := hcut
  clear Q F2 F4
  clear P
  go_wp2_with fail
  go_loopw [12, 13] (fun n i wr => ∃ k : Nat, k ≤ S.size ∧ i = .int .i64 k ∧ n = .int .i64 (cntK S k) ∧ Below w.heap.size w wr) (fun _ i _ => S.size - (intOf i).toNat)
  case atStart => exact ⟨0, Nat.zero_le _, rfl, rfl, G⟩
  clear G HF
  case round =>
    obtain ⟨k, hk, rfl, rfl, G⟩ := hrel
    by_cases hlt : k < S.size
    · have hnx := Lib.hid (cntK_next hlt)
      have hkl := cntK_le S k
      generalize cntK S k = n0 at *
      have hp1 : IntKind.i64.wrap ((k : Int) + 1) = (k : Int) + 1 := IntWalk.i64_in _ (by omega)
      have hp2 : IntKind.i64.wrap ((n0 : Int) + 1) = (n0 : Int) + 1 := IntWalk.i64_in _ (by omega)
      have hb1 : (S[k].toNat : Int) < 256 := by have := S[k].toNat_lt; omega
      by_cases he : S[k] = 10
      · have hbe : ((S[k].toNat : Int) == 10) = true := by rw [he]; rfl
        have HE : Hid (cntK S (k + 1) = n0 + 1) := by show _ = _; rw [hnx.out, if_pos he]
        clear he hnx
        go_wp2_with fail
        go_roundw
        case rel => exact ⟨k + 1, by omega, by go_num, by rw [HE.out]; go_num, G⟩
        case measure => simp [intOf]; omega
      · have hbe : ((S[k].toNat : Int) == 10) = false := by
          rw [beq_eq_false_iff_ne]; intro h; exact he (UInt8.toNat_inj.1 (by show S[k].toNat = 10; omega))
        have HE : Hid (cntK S (k + 1) = n0) := by show _ = _; rw [hnx.out, if_neg he, Nat.add_zero]
        clear he hnx
        go_wp2_with fail
        go_roundw
        case rel => exact ⟨k + 1, by omega, by go_num, by rw [HE.out], G⟩
        case measure => simp [intOf]; omega
    · have hks : k = S.size := by omega
      subst hks
      rw [cntK_all]
      cases so
      · clear F3 v1 v2 v3 F1
        go_wp2_with fail
        refine (DrawSidesFor_any (hR.on G) HL.out (by omega)).mono ?_
        rintro e w10 ⟨s, hs, rfl, hb⟩
        replace G := G.trans (hb.mono G.size)
        clear hb
        have H1 := Lib.hid (fun (W : World) => SidesFor_impl s W)
        have H2 := Lib.hid (fun (W : World) => SidesFor_spec s W)
        have H3 := Lib.hid (fun (W : World) (V : Fams W) => FamilyOf_impl (s := s) (w := W) V)
        have H4 := Lib.hid (fun (W : World) => FamilyOf_spec (s := s) (w := W))
        have F5 : Hid (∀ (i : Nat) (h : i < (sfR s).length), okFt ⟨50, ⟨#[]⟩, s, ⟨#[]⟩, (sfR s)[i]⟩ = true) := (fun i h => side_used h : ∀ (i : Nat) (h : i < (sfR s).length), _)
        have hsl := sfR_b s
        have e9 : fmOk s = sfOk s := rfl
        rw [e9] at H3 H4
        generalize sfR s = sd at *
        generalize sfOk s = so9 at *
        generalize fmV s = fv at *
        clear e9
        have u1 : (so9 != so9) = false := by simp
        have u2 : (so9 == so9) = true := by simp
        have u3 : (fv.toList == fv.toList) = true := by simp
        go_wp2_with fail
        refine (H1.out _).mono ?_
        rintro e w11 ⟨A3, c3, rfl, P0, hb⟩
        have P := own_le P0 (base' := w.heap.size) G.size
        replace G := G.trans (hb.mono G.size)
        clear hb P0
        go_wp2_with fail
        refine (H2.out _).mono ?_
        rintro e w12 ⟨A4, c4, rfl, Q0, hb⟩
        have Q := own_le Q0 (base' := w.heap.size) G.size
        replace P := own_below P hb
        replace G := G.trans (hb.mono G.size)
        clear hb Q0 H1 H2
        go_wp2_with fail
        refine (rTexts_b (Rd.of_own P) (Rd.of_own Q) (by simp only [maxLen]; omega)).mono ?_
        rintro e w13 ⟨rfl, hb⟩
        replace P := own_below P hb
        replace G := G.trans (hb.mono G.size)
        clear hb Q u1
        go_wp2_with fail
        go_loopw [19] (fun i wr => ∃ k : Nat, k ≤ sd.length ∧ i = .int .i64 k ∧ wr.ownsRow w.heap.size 9 1 (.slice A3 sd.length c3) sd.length (strs sd) ∧ Below w.heap.size w wr) (fun i _ => sd.length - (intOf i).toNat)
        case atStart => exact ⟨0, Nat.zero_le _, rfl, P, G⟩
        clear P G
        case round =>
          obtain ⟨k, hk, rfl, P, G⟩ := hrel
          by_cases hlt : k < sd.length
          · obtain ⟨bl, off, rfl, _, hca⟩ := (Rd.of_own P).2 (by omega)
            have cz := hca k (.string sd[k]) (by simp [strs, hlt])
            have hok := F5.out k hlt
            generalize sd[k] = x at *
            have HI := Lib.hid (fun (W : World) => IsFeature_impl ⟨50, ⟨#[]⟩, s, ⟨#[]⟩, x⟩ W)
            rw [hok] at HI
            have hp1 : IntKind.i64.wrap ((k : Int) + 1) = (k : Int) + 1 := IntWalk.i64_in _ (by omega)
            have hlti : (k : Int) < (sd.length : Int) := by omega
            clear hca hok
            go_wp2_with fail
            refine (HI.out _).mono ?_
            rintro e w14 ⟨rfl, hb⟩
            replace P := own_below P hb
            replace G := G.trans (hb.mono G.size)
            clear hb HI cz
            go_wp2_with fail
            go_roundw
            case rel => exact ⟨k + 1, by omega, by go_num, P, G⟩
            case measure => simp [intOf]; omega
          · have hks : k = sd.length := by omega
            subst hks
            go_wp2_with fail
            refine (H3.out _ (FA.on G)).mono ?_
            rintro e w15 ⟨rfl, hb⟩
            replace G := G.trans (hb.mono G.size)
            clear hb
            go_wp2_with fail
            refine (H4.out _).mono ?_
            rintro e w16 ⟨rfl, hb⟩
            replace G := G.trans (hb.mono G.size)
            clear hb
            go_wp2_with fail
            go_ret
            exact ⟨rfl, G⟩
      · have e3 := F3.out rfl
        have v9 : ((cnt10 S : Int) != (ll : Int)) = false := by rw [e3]; simp
        generalize cnt10 S = lines at *
        clear F3 F1 e3
        go_wp2_with fail
        refine (DrawSidesFor_any (hR.on G) HL.out (by omega)).mono ?_
        rintro e w10 ⟨s, hs, rfl, hb⟩
        replace G := G.trans (hb.mono G.size)
        clear hb
        have H1 := Lib.hid (fun (W : World) => SidesFor_impl s W)
        have H2 := Lib.hid (fun (W : World) => SidesFor_spec s W)
        have H3 := Lib.hid (fun (W : World) (V : Fams W) => FamilyOf_impl (s := s) (w := W) V)
        have H4 := Lib.hid (fun (W : World) => FamilyOf_spec (s := s) (w := W))
        have F5 : Hid (∀ (i : Nat) (h : i < (sfR s).length), okFt ⟨50, ⟨#[]⟩, s, ⟨#[]⟩, (sfR s)[i]⟩ = true) := (fun i h => side_used h : ∀ (i : Nat) (h : i < (sfR s).length), _)
        have hsl := sfR_b s
        have e9 : fmOk s = sfOk s := rfl
        rw [e9] at H3 H4
        generalize sfR s = sd at *
        generalize sfOk s = so9 at *
        generalize fmV s = fv at *
        clear e9
        have u1 : (so9 != so9) = false := by simp
        have u2 : (so9 == so9) = true := by simp
        have u3 : (fv.toList == fv.toList) = true := by simp
        go_wp2_with fail
        refine (H1.out _).mono ?_
        rintro e w11 ⟨A3, c3, rfl, P0, hb⟩
        have P := own_le P0 (base' := w.heap.size) G.size
        replace G := G.trans (hb.mono G.size)
        clear hb P0
        go_wp2_with fail
        refine (H2.out _).mono ?_
        rintro e w12 ⟨A4, c4, rfl, Q0, hb⟩
        have Q := own_le Q0 (base' := w.heap.size) G.size
        replace P := own_below P hb
        replace G := G.trans (hb.mono G.size)
        clear hb Q0 H1 H2
        go_wp2_with fail
        refine (rTexts_b (Rd.of_own P) (Rd.of_own Q) (by simp only [maxLen]; omega)).mono ?_
        rintro e w13 ⟨rfl, hb⟩
        replace P := own_below P hb
        replace G := G.trans (hb.mono G.size)
        clear hb Q u1
        go_wp2_with fail
        go_loopw [19] (fun i wr => ∃ k : Nat, k ≤ sd.length ∧ i = .int .i64 k ∧ wr.ownsRow w.heap.size 9 1 (.slice A3 sd.length c3) sd.length (strs sd) ∧ Below w.heap.size w wr) (fun i _ => sd.length - (intOf i).toNat)
        case atStart => exact ⟨0, Nat.zero_le _, rfl, P, G⟩
        clear P G
        case round =>
          obtain ⟨k, hk, rfl, P, G⟩ := hrel
          by_cases hlt : k < sd.length
          · obtain ⟨bl, off, rfl, _, hca⟩ := (Rd.of_own P).2 (by omega)
            have cz := hca k (.string sd[k]) (by simp [strs, hlt])
            have hok := F5.out k hlt
            generalize sd[k] = x at *
            have HI := Lib.hid (fun (W : World) => IsFeature_impl ⟨50, ⟨#[]⟩, s, ⟨#[]⟩, x⟩ W)
            rw [hok] at HI
            have hp1 : IntKind.i64.wrap ((k : Int) + 1) = (k : Int) + 1 := IntWalk.i64_in _ (by omega)
            have hlti : (k : Int) < (sd.length : Int) := by omega
            clear hca hok
            go_wp2_with fail
            refine (HI.out _).mono ?_
            rintro e w14 ⟨rfl, hb⟩
            replace P := own_below P hb
            replace G := G.trans (hb.mono G.size)
            clear hb HI cz
            go_wp2_with fail
            go_roundw
            case rel => exact ⟨k + 1, by omega, by go_num, P, G⟩
            case measure => simp [intOf]; omega
          · have hks : k = sd.length := by omega
            subst hks
            go_wp2_with fail
            refine (H3.out _ (FA.on G)).mono ?_
            rintro e w15 ⟨rfl, hb⟩
            replace G := G.trans (hb.mono G.size)
            clear hb
            go_wp2_with fail
            refine (H4.out _).mono ?_
            rintro e w16 ⟨rfl, hb⟩
            replace G := G.trans (hb.mono G.size)
            clear hb
            go_wp2_with fail
            go_ret
            exact ⟨rfl, G⟩
end Go.Proofs.YtmmpcchjalgokaaDoor
