/- Contracts: numbersIn; ParseRunner, the program's and the reference's. -/
import Derived.Test.YtmmpcchjalgokaaGreatDoorPrn
import Derived.Test.YtmmpcchjalgokaaGreatDoorPint
import Derived.Test.YtmmpcchjalgokaaGreatDoorMxl
import Derived.Test.YtmmpcchjalgokaaGreatDoorRns
import Derived.Test.YtmmpcchjalgokaaGreatDoorApp
import Derived.Test.YtmmpcchjalgokaaGreatDoorRg2
import Derived.Deep.DeepCutAuto
namespace Go.Proofs.YtmmpcchjalgokaaGreatDoor
set_option linter.unusedVariables false
set_option linter.unusedSimpArgs false
open Go.RowKit
theorem Rd.str {w : World} {B n : Nat} {A : Option Addr} {l : List ByteArray} (h : Rd w B 1 A n (strs l)) (hn : 0 < n) :
    ∃ b off, A = some ⟨b, off, none⟩ ∧ b < B ∧ ∀ (j : Nat) (hj : j < l.length), w.cell? ⟨b, off + j, none⟩ = some (.string l[j]) := by
  obtain ⟨b, off, e, hb, hc⟩ := h.2 hn
  exact ⟨b, off, e, hb, fun j hj => hc j _ (by simp [strs, hj])⟩
theorem Rd.slen {w : World} {B n : Nat} {A : Option Addr} {l : List ByteArray} (h : Rd w B 1 A n (strs l)) : l.length = n := by simpa [strs] using h.1
def nmV (l : List ByteArray) (ps : List Nat) : List Int := ps.map fun p => rdV (wd l p)
theorem nm_snoc (l : List ByteArray) (ps : List Nat) (p : Nat) : nmOk l (ps ++ [p]) = (nmOk l ps && (decide (p < l.length) && rdOk (wd l p))) := by simp [nmOk]
theorem nm_bad {l : List ByteArray} {ps : List Nat} {j : Nat} (hj : j < ps.length) (h : (decide (ps[j] < l.length) && rdOk (wd l ps[j])) = false) : nmOk l ps = false := by
  unfold nmOk
  rw [List.all_eq_false]
  exact ⟨ps[j], List.getElem_mem hj, by simp [h]⟩
theorem wd_get {l : List ByteArray} {k : Nat} (h : k < l.length) : wd l k = l[k] := by
  unfold wd
  rw [List.getD_eq_getElem?_getD, List.getElem?_eq_getElem h]
  rfl
set_option maxRecDepth 100000 in
set_option maxHeartbeats 2000000 in
theorem numbersIn_any {ws : List ByteArray} {ps : List Nat} {A B : Option Addr} {c d n m : Nat} {w : World} (hA : Rd w w.heap.size 1 A n (strs ws)) (hB : Rd w w.heap.size 1 B m (ints (ps.map fun p : Nat => (p : Int)))) (hn0 : 1 ≤ n) (hn : n ≤ 1048600) (hm : m ≤ 10) (hsz : ∀ x ∈ ws, x.size ≤ 1048576) (hp : ∀ p ∈ ps, p ≤ 1048576) (T : Tab w) (Y : Syn w) :
    Calls Tryz.prog 71 #[.slice A n c, .slice B m d] w fun e w' => ∃ O k q, e = .returned (.tuple #[.slice O k q, .bool (nmOk ws ps)]) ∧ (nmOk ws ps = true → k = m ∧ w'.ownsRow w.heap.size 3 1 (.slice O k q) k (ints (nmV ws ps))) ∧ Below w.heap.size w w' := by
  have hwl := hA.slen
  have hpl : ps.length = m := by have := hB.len; simpa using this
  obtain ⟨ba, oa, rfl, hba, hca⟩ := hA.str (by omega)
  obtain ⟨i0, hi0, hz0, hz1, hz2⟩ := info_parts int_info
  have HWL := Lib.hid hwl
  have HPL := Lib.hid hpl
  have HCA := Lib.hid hca
  have HSZ := Lib.hid hsz
  have HPP := Lib.hid hp
  clear hwl hpl hca hsz hp
  go_enter Tryz.func71, Tryz.ntmps71
  go_wp2_with fail
  go_loopw [6, 14] (fun o i wr => ∃ (j : Nat) (O : Option Addr) (q : Nat), j ≤ m ∧ i = .int .i64 j ∧ o = .slice O j q ∧ wr.ownsRow w.heap.size 3 1 (.slice O j q) j (ints (nmV ws (ps.take j))) ∧ Hid (nmOk ws (ps.take j) = true) ∧ Below w.heap.size w wr) (fun _ i _ => m - (intOf i).toNat)
  case atStart =>
    refine ⟨0, some ⟨w.heap.size, 0, none⟩, 0, Nat.zero_le _, rfl, rfl, ?_, (rfl : nmOk ws (ps.take 0) = true), (by repeat (first | exact Below.refl _ _ | refine below_drewN ?_ _ | refine Below.drew ?_ | refine Below.alloc ?_ (by first | omega | (simp; done) | (simp; omega)) _ | refine Below.setCell ?_ (by first | omega | (simp; done) | (simp; omega)) _))⟩
    exact World.ownsRow_lit (base := w.heap.size) (size := 1) (e := 3) w #[] 0 (Nat.le_refl _) (by simp) rfl
  case round =>
    obtain ⟨j, O, q, hj, rfl, rfl, hown, HK, G⟩ := hrel
    by_cases hlt : j < m
    · have hjp : j < ps.length := by rw [HPL.out]; exact hlt
      obtain ⟨bb, ob, rfl, hbb, hcb⟩ := hB.int (show 0 < m by omega)
      have cb := hcb j (by simpa using hjp)
      rw [List.getElem_map] at cb
      have cb2 : wr.cell? ⟨bb, ob + j, none⟩ = some (.int .i64 (ps[j] : Int)) := by rw [(bcell G).1 bb _ hbb]; exact cb
      have hpb := HPP.out _ (List.getElem_mem hjp)
      have HBAD := Lib.hid (fun h => nm_bad (l := ws) hjp h)
      have HTK : Hid (ps.take (j + 1) = ps.take j ++ [ps[j]]) := (List.take_succ_eq_append_getElem hjp : _ = _)
      generalize hpj : ps[j] = p at *
      clear cb hcb hpj
      by_cases hpn : p < n
      · have hpw : p < ws.length := by rw [HWL.out]; exact hpn
        have hpi : ¬ (n : Int) ≤ (p : Int) := by omega
        have ca : wr.cell? ⟨ba, oa + p, none⟩ = some (.string ws[p]) := by rw [(bcell G).1 ba _ hba]; exact HCA.out p hpw
        have hsp := HSZ.out _ (List.getElem_mem hpw)
        have HWD := Lib.hid (wd_get hpw)
        have HDP : Hid (decide (p < ws.length) = true) := (by simpa using hpw : decide (p < ws.length) = true)
        generalize ws[p] = x at *
        cases hok : rdOk x
        · have HF : Hid (nmOk ws ps = false) := HBAD.out (by rw [HWD.out, hok]; simp)
          have HOK := Lib.hid hok
          clear HBAD hok
          go_wp2_with fail
          refine (ParseInt_impl hsp (T.on G) (Y.on G)).mono ?_
          rintro e w2 ⟨rfl, hb⟩
          rw [HOK.out]
          go_wp2_with fail
          go_ret2
          exact ⟨none, 0, 0, by rw [HF.out]; rfl, fun h => (by rw [HF.out] at h; cases h), G.trans (hb.mono G.size)⟩
        · have HOK := Lib.hid hok
          have HN2 : Hid (nmOk ws (ps.take (j + 1)) = true) := (by rw [HTK.out, nm_snoc, HK.out, HDP.out, HWD.out, hok]; rfl : nmOk ws (ps.take (j + 1)) = true)
          have HV2 : Hid (nmV ws (ps.take (j + 1)) = nmV ws (ps.take j) ++ [rdV x]) := (by rw [HTK.out]; simp [nmV, HWD.out] : nmV ws (ps.take (j + 1)) = _)
          clear HBAD hok
          go_wp2_with fail
          refine (ParseInt_impl hsp (T.on G) (Y.on G)).mono ?_
          rintro e w2 ⟨rfl, hb⟩
          rw [HOK.out]
          have o2 := own_below hown hb
          have G2 := G.trans (hb.mono G.size)
          have g2s := G2.size
          clear hown G hb cb2 ca
          generalize rdV x = v at *
          have HVV := Lib.hid ((Blk.new w2 3 (ints [v])).rd (size := 1) (n := 1) rfl)
          have OW := o2.alloc (.cells #[.int .i64 v] 3)
          go_wp2_with (at_builtin; refine wpList_append_rd rfl _ _ 83 rfl w.heap.size 3 i0 (.int .i64 0) 1 8 Tryz.underlying83 hi0 hz0 hz1 hz2 rfl (by decide) _ _ _ rfl OW _ _ _ _ _ rfl HVV.out (by intro u hu; simp [ints] at hu; subst hu; rfl) ?c1 ?d1 ?e1 ?_)
          case c1 => simp only [maxLen]; omega
          case d1 => omega
          case e1 => simp; omega
          intro A7 c7 w7 h7 own7 grow7 at7
          have G7 := (G2.alloc G2.size (.cells #[.int .i64 v] 3)).grown grow7 (by simp; omega) (fun j hj => by have := (OW.lt j hj).1; omega)
          have O7 : w7.ownsRow w.heap.size 3 1 (.slice A7 (j + 1) c7) (j + 1) (ints (nmV ws (ps.take (j + 1)))) := by
            have e7 : ints (nmV ws (ps.take j)) ++ ints [v] = ints (nmV ws (ps.take (j + 1))) := by rw [HV2.out]; simp [ints]
            rw [← e7]
            exact own7
          clear own7 grow7 at7 OW o2 G2
          go_wp2_with fail
          go_roundw
          case rel => exact ⟨j + 1, A7, c7, by omega, by go_num, rfl, O7, HN2, G7⟩
          case measure => simp [intOf]; omega
      · have HF : Hid (nmOk ws ps = false) := HBAD.out (by rw [decide_eq_false (by rw [HWL.out]; exact hpn)]; rfl)
        have hpi : (n : Int) ≤ (p : Int) := by omega
        clear HBAD
        go_wp2_with fail
        go_ret2
        exact ⟨none, 0, 0, by rw [HF.out]; rfl, fun h => (by rw [HF.out] at h; cases h), G⟩
    · have hjm : j = m := by omega
      subst hjm
      have HE : Hid (ps.take j = ps) := (List.take_of_length_le (by rw [HPL.out]; exact Nat.le_refl _) : ps.take j = ps)
      rw [HE.out] at HK hown
      go_wp2_with fail
      go_ret2
      exact ⟨O, j, q, by rw [HK.out]; rfl, fun _ => ⟨rfl, hown⟩, G⟩
theorem eqb_lit (a : ByteArray) (l : List UInt8) : (a.toList == l) = decide (a = ⟨l.toArray⟩) := by
  rw [Lib.toList_data]
  by_cases h : a = ⟨l.toArray⟩
  · subst h; simp
  · rw [decide_eq_false h]
    have : a.data.toList ≠ l := fun e => h (by apply ByteArray.ext; rw [← e])
    simpa using this
theorem wd_mem {l : List ByteArray} {P : ByteArray → Prop} (h : ∀ x ∈ l, P x) {k : Nat} (hk : k < l.length) : P (wd l k) := by
  rw [wd_get hk]; exact h _ (List.getElem_mem hk)
theorem nm_len {l : List ByteArray} (h : nmOk l [0, 4, 7] = true) : 8 ≤ l.length ∧ rdOk (wd l 0) = true ∧ rdOk (wd l 4) = true ∧ rdOk (wd l 7) = true := by
  unfold nmOk at h
  simp only [List.all_cons, List.all_nil, Bool.and_true, Bool.and_eq_true, decide_eq_true_eq] at h
  exact ⟨by omega, h.1.2, h.2.1.2, h.2.2.2⟩
theorem pr_no1 {s : ByteArray} (h : nmOk (ws8 (cuts s 32)) [0, 4, 7] = false) : prOk s = false ∧ prV s = rnZ0 := by
  refine pr_none fun r h1 h2 => ?_
  have := (pr_key h1).1
  rw [h2, h] at this; cases this
theorem pr_no2 {s : ByteArray} (h : rnOk (candI (ws8 (cuts s 32))) = false) : prOk s = false ∧ prV s = rnZ0 := by
  refine pr_none fun r h1 h2 => ?_
  have := (pr_key h1).2
  rw [h2] at this
  rw [this, h1] at h; cases h
theorem pr_no3 {s : ByteArray} (h : decide (rtB (candI (ws8 (cuts s 32))) = s) = false) : prOk s = false ∧ prV s = rnZ0 := by
  refine pr_none fun r h1 h2 => ?_
  have := (pr_key h1).2
  rw [h2] at this
  rw [decide_eq_false_iff_not] at h
  rw [this] at h
  exact h h2
set_option maxRecDepth 100000 in
set_option maxHeartbeats 4000000 in
theorem ParseRunner_impl {s : ByteArray} {w : World} (hs : s.size ≤ 1048576) (T : Tab w) (Y : Syn w) (M : Mxl w) :
    Calls Tryz.prog 23 #[.string s] w fun e w' => e = .returned (.tuple #[.agg #[.int .i64 (prV s).id, .string (prV s).name, .string (prV s).club, .int .i64 (prV s).born, .bool (prV s).woman, .int .i64 (prV s).card], .bool (prOk s)]) ∧ Below w.heap.size w w' := by
  have HCL := Lib.hid (cuts_len s 32)
  have HCS := Lib.hid (cuts_sz s 32)
  have Z := Blk.new w 41 [.int .i64 0, .string ByteArray.empty, .string ByteArray.empty, .int .i64 0, .bool false, .int .i64 0]
  have G : Below w.heap.size w (w.alloc (.cells #[.int .i64 0, .string ByteArray.empty, .string ByteArray.empty, .int .i64 0, .bool false, .int .i64 0] 41)) := (by repeat (first | exact Below.refl _ _ | refine below_drewN ?_ _ | refine Below.drew ?_ | refine Below.alloc ?_ (by first | omega | (simp; done) | (simp; omega)) _ | refine Below.setCell ?_ (by first | omega | (simp; done) | (simp; omega)) _))
  obtain ⟨i1, hi1, hy0, hy1, hy2⟩ := info_parts string_info
  obtain ⟨n, hn⟩ : ∃ n, (cuts s 32).length = n := ⟨_, rfl⟩
  have hn1 : 1 ≤ n ∧ n ≤ 1048577 := by have := HCL.out; omega
  have HN := Lib.hid hn
  by_cases h6 : n = 6
  · have HW : Hid (ws8 (cuts s 32) = cuts s 32 ++ [⟨#[99, 97, 114, 100]⟩, ⟨#[48]⟩]) := (by unfold ws8; rw [if_pos (hn.trans h6)] : ws8 (cuts s 32) = _)
    have HSZ : Hid (∀ x ∈ ws8 (cuts s 32), x.size ≤ 1048576) := (by
      rw [HW.out]
      intro x hx
      rcases List.mem_append.1 hx with h9 | h9
      · exact Nat.le_trans (HCS.out x h9) hs
      · simp only [List.mem_cons, List.not_mem_nil, or_false] at h9
        rcases h9 with rfl | rfl <;> decide : ∀ x ∈ ws8 (cuts s 32), x.size ≤ 1048576)
    subst h6
    go_enter Tryz.func23, Tryz.ntmps23
    go_wp2_with fail
    refine (Split_any s 32 _ hs (M.on G)).mono ?_
    rintro e w1 ⟨rfl, B, hb⟩
    rw [hn, World.size_alloc]
    rw [World.size_alloc] at B
    replace Z := Z.on hb
    have hz := G.size
    replace G := G.trans (hb.mono G.size)
    have OW0 := B.own (base := w.heap.size) (size := 1) (n := 6) (by simp) (by simp [strs]; omega) (by simp only [maxLen]; omega)
    clear hb B hn
    have OW := OW0.alloc (.cells #[.string ⟨#[99, 97, 114, 100]⟩, .string ⟨#[48]⟩] 9)
    have HVV := Lib.hid ((Blk.new w1 9 (strs [⟨#[99, 97, 114, 100]⟩, ⟨#[48]⟩])).rd (size := 1) (n := 2) rfl)
    have HZ := Lib.hid Z
    have HG := Lib.hid G
    have hgl := (G.size : w.heap.size ≤ w1.heap.size)
    clear Z OW0 G
    go_wp2_with (at_builtin; refine wpList_append_rd rfl _ _ 66 rfl w.heap.size 9 i1 (.string ByteArray.empty) 1 16 Tryz.underlying66 hi1 hy0 hy1 hy2 rfl (by decide) _ _ _ rfl OW _ _ _ _ _ rfl HVV.out (strs_one _) ?c1 ?d1 ?e1 ?_)
    case c1 => simp only [maxLen]; omega
    case d1 => omega
    case e1 => simp; omega
    intro A7 c7 w7 h7 own7 grow7 at7
    have G7 := (HG.out.alloc hgl (.cells #[.string ⟨#[99, 97, 114, 100]⟩, .string ⟨#[48]⟩] 9)).grown grow7 (by simp; omega) (fun j hj => by have := (OW.lt j hj).1; omega)
    have Z7 := ((HZ.out.alloc (.cells #[.string ⟨#[99, 97, 114, 100]⟩, .string ⟨#[48]⟩] 9)).grown grow7 (by simp [Value.ownBlock]))
    have P7 : Rd w7 w7.heap.size 1 A7 8 (strs (ws8 (cuts s 32))) := by
      have := Rd.of_own own7
      rw [HW.out]
      unfold strs at this ⊢
      rw [List.map_append]
      exact this
    have HL8 : Hid ((ws8 (cuts s 32)).length = 8) := (by rw [HW.out, List.length_append, HN.out]; rfl : (ws8 (cuts s 32)).length = 8)
    clear own7 grow7 at7 OW HZ HG HVV
    have HT := T.on G7
    have HY := Y.on G7
    have ZL := G7.size
    have HI := Lib.hid ((Blk.new w7 3 (ints ([0, 4, 7].map fun p : Nat => (p : Int)))).rd (size := 1) (n := 3) rfl)
    have GA := G7.alloc ZL (.cells (ints ([0, 4, 7].map fun p : Nat => (p : Int))).toArray 3)
    have ZA := Z7.alloc (.cells (ints ([0, 4, 7].map fun p : Nat => (p : Int))).toArray 3)
    have PA := Lib.hid (P7.on (Below.alloc (Below.refl _ _) (Nat.le_refl _) (.cells (ints ([0, 4, 7].map fun p : Nat => (p : Int))).toArray 3)))
    have TA := Lib.hid (T.on GA)
    have YA := Lib.hid (Y.on GA)
    have HZA := Lib.hid ZA
    have HGA := Lib.hid GA
    clear GA ZA G7 Z7 P7 HT HY
    go_wp2_with fail
    refine (numbersIn_any (ws := ws8 (cuts s 32)) (ps := [0, 4, 7]) PA.out HI.out (by omega) (by omega) (by omega) HSZ.out (by decide) TA.out YA.out).mono ?_
    rintro e w8 ⟨O, k, q, rfl, hO, hb⟩
    have Z := HZA.out.on hb
    have G := HGA.out.trans (hb.mono HGA.out.size)
    have PB := PA.out.on hb
    clear PA TA YA HZA HGA HI
    cases hnm : nmOk (ws8 (cuts s 32)) [0, 4, 7]
    · have HP := Lib.hid (pr_no1 hnm)
      rw [hnm] at hO
      clear hnm hO PB hb
      obtain ⟨z0, z1, z2, z3, z4, z5⟩ := RnAt.blk (r := rnZ0) Z
      simp only [Nat.zero_add] at z1 z2 z3 z4 z5
      have f0 := Z.frozen 0
      have f1 := Z.frozen 1
      have f2 := Z.frozen 2
      have f3 := Z.frozen 3
      have f4 := Z.frozen 4
      have f5 := Z.frozen 5
      have Z2 := Z.put6 0 rnZ0
      obtain ⟨q0, q1, q2, q3, q4, q5⟩ := RnAt.blk (r := rnZ0) Z2
      simp only [Nat.zero_add] at q0 q1 q2 q3 q4 q5
      have GP := below_put6 G (Nat.le_refl _) 0 rnZ0
      simp only [Nat.zero_add] at GP
      simp only [rnZ0] at q0 q1 q2 q3 q4 q5
      clear Z2
      go_wp2_with fail
      refine bodyPost_ret (v := .tuple #[.agg #[.int .i64 0, .string ⟨#[]⟩, .string ⟨#[]⟩, .int .i64 0, .bool false, .int .i64 0], .bool false]) (by simp [results, Tryz.results23, go_sem, q0, q1, q2, q3, q4, q5]) rfl ⟨by rw [HP.out.1, HP.out.2] <;> rfl, GP⟩
    · obtain ⟨rfl, O8⟩ := hO hnm
      obtain ⟨hl8, _, _, _⟩ := nm_len hnm
      have hl8n : 8 ≤ 8 := by have := HL8.out; omega
      obtain ⟨bl, ol, rfl, hbl, hcl⟩ := (Rd.of_own O8).int (show 0 < 3 by omega)
      have HNM := Lib.hid hnm
      obtain ⟨bw, ow, rfl, hbw, hcw⟩ := PB.str (by omega)
      have hq3 : 3 ≤ q := own_cap O8
      have l0 : w8.cell? ⟨bl, ol, none⟩ = some (.int .i64 (rdV (wd (ws8 (cuts s 32)) 0))) := (hcl 0 (show (0 : Nat) < 3 by decide)).trans rfl
      have l1 : w8.cell? ⟨bl, ol + 1, none⟩ = some (.int .i64 (rdV (wd (ws8 (cuts s 32)) 4))) := (hcl 1 (show (1 : Nat) < 3 by decide)).trans rfl
      have l2 : w8.cell? ⟨bl, ol + 2, none⟩ = some (.int .i64 (rdV (wd (ws8 (cuts s 32)) 7))) := (hcl 2 (show (2 : Nat) < 3 by decide)).trans rfl
      have s1 : w8.cell? ⟨bw, ow + 1, none⟩ = some (.string (wd (ws8 (cuts s 32)) 1)) := by rw [wd_get (by omega)]; exact hcw 1 (by omega)
      have s3 : w8.cell? ⟨bw, ow + 3, none⟩ = some (.string (wd (ws8 (cuts s 32)) 3)) := by rw [wd_get (by omega)]; exact hcw 3 (by omega)
      have s5 : w8.cell? ⟨bw, ow + 5, none⟩ = some (.string (wd (ws8 (cuts s 32)) 5)) := by rw [wd_get (by omega)]; exact hcw 5 (by omega)
      have z1 := wd_mem HSZ.out (k := 1) (by omega)
      have z3 := wd_mem HSZ.out (k := 3) (by omega)
      obtain ⟨r, hr⟩ : ∃ r, candI (ws8 (cuts s 32)) = r := ⟨_, rfl⟩
      have HRR := Lib.hid hr
      have r1 : wd (ws8 (cuts s 32)) 1 = r.name := by rw [← hr]; rfl
      have r2 : wd (ws8 (cuts s 32)) 3 = r.club := by rw [← hr]; rfl
      have r3 : rdV (wd (ws8 (cuts s 32)) 0) = r.id := by rw [← hr]; rfl
      have r4 : rdV (wd (ws8 (cuts s 32)) 4) = r.born := by rw [← hr]; rfl
      have r5 : rdV (wd (ws8 (cuts s 32)) 7) = r.card := by rw [← hr]; rfl
      have r6 : ((wd (ws8 (cuts s 32)) 5).toList == [119]) = r.woman := by rw [← hr]; exact eqb_lit _ [119]
      rw [r1] at s1 z1
      rw [r2] at s3 z3
      rw [r3] at l0
      rw [r4] at l1
      rw [r5] at l2
      generalize wd (ws8 (cuts s 32)) 5 = x5 at *
      clear hcl hcw PB hr r1 r2 r3 r4 r5 O8 hO hnm hb
      have n1 : 1 < 8 := by omega
      have n3 : 3 < 8 := by omega
      have n5 : 5 < 8 := by omega
      have n1i : (1 : Int) < (8 : Int) := by omega
      have n3i : (3 : Int) < (8 : Int) := by omega
      have n5i : (5 : Int) < (8 : Int) := by omega
      go_wp2_with fail
      go_upto_region 7 with (fail)
      have HB8 : Hid (Below w8.heap.size w8 w8) := (Below.refl _ _ : Below w8.heap.size w8 w8)
      go_cut [7] (fun x wx => x = .pointer (some ⟨w8.heap.size, 0, none⟩) ∧ Blk wx w8.heap.size 41 r.cells ∧ Below w8.heap.size w8 wx)
      case first =>
        refine wp_region_held_drew (S := fun w' => Below w8.heap.size w8 w') (by kernel_rfl) ?_ (fun hHeld => ?_)
        · (try dsimp only)
          first | exact Below.drew (Below.refl _ _) | exact hHeld
        have hwx : w8.drew.heap.size = w8.heap.size := rfl; generalize w8.drew = wx at *
        refine rgTake (i := 0) (d := 25) (v := ?_) rfl rfl (by kernel_rfl) (by kernel_rfl) (by kernel_rfl) (fun _ _ _ h => h) (by rfl) ?_ (by assumption) ?_
        rotate_left
        · ((intro w hSw); (try dsimp only at hSw); go_simp; (try with_reducible rfl))
        try simp only [Act.put, List.setIfInBounds_toArray, List.set_cons_zero, List.set_cons_succ]
        refine rgTake (i := 1) (d := 26) (v := ?_) rfl rfl (by kernel_rfl) (by kernel_rfl) (by kernel_rfl) (fun _ _ _ h => h) (by rfl) ?_ (by assumption) ?_
        rotate_left
        · ((intro w hSw); (try dsimp only at hSw); go_simp; (try with_reducible rfl))
        try simp only [Act.put, List.setIfInBounds_toArray, List.set_cons_zero, List.set_cons_succ]
        refine rgTake (i := 2) (d := 27) (v := ?_) rfl rfl (by kernel_rfl) (by kernel_rfl) (by kernel_rfl) (fun _ _ _ h => h) (by rfl) ?_ (by assumption) ?_
        rotate_left
        · ((intro w hSw); (try dsimp only at hSw); (have l0 := (hSw.cell (p := ⟨bl, ol, none⟩) hbl).trans l0; have l1 := (hSw.cell (p := ⟨bl, ol + 1, none⟩) hbl).trans l1; have l2 := (hSw.cell (p := ⟨bl, ol + 2, none⟩) hbl).trans l2; have s1 := (hSw.cell (p := ⟨bw, ow + 1, none⟩) hbw).trans s1; have s3 := (hSw.cell (p := ⟨bw, ow + 3, none⟩) hbw).trans s3; have s5 := (hSw.cell (p := ⟨bw, ow + 5, none⟩) hbw).trans s5); go_simp; (try with_reducible rfl))
        try simp only [Act.put, List.setIfInBounds_toArray, List.set_cons_zero, List.set_cons_succ]
        refine rgTake (i := 3) (d := 28) (v := ?_) rfl rfl (by kernel_rfl) (by kernel_rfl) (by kernel_rfl) (fun _ _ _ h => h) (by rfl) ?_ (by assumption) ?_
        rotate_left
        · ((intro w hSw); (try dsimp only at hSw); go_simp; (try with_reducible rfl))
        try simp only [Act.put, List.setIfInBounds_toArray, List.set_cons_zero, List.set_cons_succ]
        refine rgTake (i := 4) (d := 29) (v := ?_) rfl rfl (by kernel_rfl) (by kernel_rfl) (by kernel_rfl) (fun _ _ _ h => h) (by rfl) ?_ (by assumption) ?_
        rotate_left
        · ((intro w hSw); (try dsimp only at hSw); go_simp; (try with_reducible rfl))
        try simp only [Act.put, List.setIfInBounds_toArray, List.set_cons_zero, List.set_cons_succ]
        refine rgTake (i := 5) (d := 30) (v := ?_) rfl rfl (by kernel_rfl) (by kernel_rfl) (by kernel_rfl) (fun _ _ _ h => h) (by rfl) ?_ (by assumption) ?_
        rotate_left
        · ((intro w hSw); (try dsimp only at hSw); (have l0 := (hSw.cell (p := ⟨bl, ol, none⟩) hbl).trans l0; have l1 := (hSw.cell (p := ⟨bl, ol + 1, none⟩) hbl).trans l1; have l2 := (hSw.cell (p := ⟨bl, ol + 2, none⟩) hbl).trans l2; have s1 := (hSw.cell (p := ⟨bw, ow + 1, none⟩) hbw).trans s1; have s3 := (hSw.cell (p := ⟨bw, ow + 3, none⟩) hbw).trans s3; have s5 := (hSw.cell (p := ⟨bw, ow + 5, none⟩) hbw).trans s5); go_simp; (try with_reducible rfl))
        try simp only [Act.put, List.setIfInBounds_toArray, List.set_cons_zero, List.set_cons_succ]
        refine rgTake (i := 6) (d := 31) (v := ?_) rfl rfl (by kernel_rfl) (by kernel_rfl) (by kernel_rfl) (fun _ _ _ h => h) (by rfl) ?_ (by assumption) ?_
        rotate_left
        · ((intro w hSw); (try dsimp only at hSw); go_simp; (try with_reducible rfl))
        try simp only [Act.put, List.setIfInBounds_toArray, List.set_cons_zero, List.set_cons_succ]
        refine rgTake (i := 7) (d := 32) (v := ?_) rfl rfl (by kernel_rfl) (by kernel_rfl) (by kernel_rfl) (fun _ _ _ h => h) (by rfl) ?_ (by assumption) ?_
        rotate_left
        · ((intro w hSw); (try dsimp only at hSw); go_simp; (try with_reducible rfl))
        try simp only [Act.put, List.setIfInBounds_toArray, List.set_cons_zero, List.set_cons_succ]
        refine rgTake (i := 8) (d := 33) (v := ?_) rfl rfl (by kernel_rfl) (by kernel_rfl) (by kernel_rfl) (fun _ _ _ h => h) (by rfl) ?_ (by assumption) ?_
        rotate_left
        · ((intro w hSw); (try dsimp only at hSw); (have l0 := (hSw.cell (p := ⟨bl, ol, none⟩) hbl).trans l0; have l1 := (hSw.cell (p := ⟨bl, ol + 1, none⟩) hbl).trans l1; have l2 := (hSw.cell (p := ⟨bl, ol + 2, none⟩) hbl).trans l2; have s1 := (hSw.cell (p := ⟨bw, ow + 1, none⟩) hbw).trans s1; have s3 := (hSw.cell (p := ⟨bw, ow + 3, none⟩) hbw).trans s3; have s5 := (hSw.cell (p := ⟨bw, ow + 5, none⟩) hbw).trans s5); go_simp; (try with_reducible rfl))
        try simp only [Act.put, List.setIfInBounds_toArray, List.set_cons_zero, List.set_cons_succ]
        refine rgTake (i := 9) (d := 34) (v := ?_) rfl rfl (by kernel_rfl) (by kernel_rfl) (by kernel_rfl) (fun _ _ _ h => h) (by rfl) ?_ (by assumption) ?_
        rotate_left
        · ((intro w hSw); (try dsimp only at hSw); go_simp; (try with_reducible rfl))
        try simp only [Act.put, List.setIfInBounds_toArray, List.set_cons_zero, List.set_cons_succ]
        refine rgTake (i := 10) (d := 35) (v := ?_) rfl rfl (by kernel_rfl) (by kernel_rfl) (by kernel_rfl) (fun _ _ _ h => h) (by rfl) ?_ (by assumption) ?_
        rotate_left
        · ((intro w hSw); (try dsimp only at hSw); go_simp; (try with_reducible rfl))
        try simp only [Act.put, List.setIfInBounds_toArray, List.set_cons_zero, List.set_cons_succ]
        refine rgTake (i := 11) (d := 36) (v := ?_) rfl rfl (by kernel_rfl) (by kernel_rfl) (by kernel_rfl) (fun _ _ _ h => h) (by rfl) ?_ (by assumption) ?_
        rotate_left
        · ((intro w hSw); (try dsimp only at hSw); (have l0 := (hSw.cell (p := ⟨bl, ol, none⟩) hbl).trans l0; have l1 := (hSw.cell (p := ⟨bl, ol + 1, none⟩) hbl).trans l1; have l2 := (hSw.cell (p := ⟨bl, ol + 2, none⟩) hbl).trans l2; have s1 := (hSw.cell (p := ⟨bw, ow + 1, none⟩) hbw).trans s1; have s3 := (hSw.cell (p := ⟨bw, ow + 3, none⟩) hbw).trans s3; have s5 := (hSw.cell (p := ⟨bw, ow + 5, none⟩) hbw).trans s5); go_simp; (try with_reducible rfl))
        try simp only [Act.put, List.setIfInBounds_toArray, List.set_cons_zero, List.set_cons_succ]
        refine rgTake (i := 12) (d := 37) (v := ?_) rfl rfl (by kernel_rfl) (by kernel_rfl) (by kernel_rfl) (fun _ _ _ h => h) (by rfl) ?_ (by assumption) ?_
        rotate_left
        · ((intro w hSw); (try dsimp only at hSw); go_simp; (try with_reducible rfl))
        try simp only [Act.put, List.setIfInBounds_toArray, List.set_cons_zero, List.set_cons_succ]
        refine rgTake (i := 13) (d := 38) (v := ?_) rfl rfl (by kernel_rfl) (by kernel_rfl) (by kernel_rfl) (fun _ _ _ h => h) (by rfl) ?_ (by assumption) ?_
        rotate_left
        · ((intro w hSw); (try dsimp only at hSw); go_simp; (try with_reducible rfl))
        try simp only [Act.put, List.setIfInBounds_toArray, List.set_cons_zero, List.set_cons_succ]
        refine rgTake (i := 14) (d := 39) (v := ?_) rfl rfl (by kernel_rfl) (by kernel_rfl) (by kernel_rfl) (fun _ _ _ h => h) (by rfl) ?_ (by assumption) ?_
        rotate_left
        · ((intro w hSw); (try dsimp only at hSw); (have l0 := (hSw.cell (p := ⟨bl, ol, none⟩) hbl).trans l0; have l1 := (hSw.cell (p := ⟨bl, ol + 1, none⟩) hbl).trans l1; have l2 := (hSw.cell (p := ⟨bl, ol + 2, none⟩) hbl).trans l2; have s1 := (hSw.cell (p := ⟨bw, ow + 1, none⟩) hbw).trans s1; have s3 := (hSw.cell (p := ⟨bw, ow + 3, none⟩) hbw).trans s3; have s5 := (hSw.cell (p := ⟨bw, ow + 5, none⟩) hbw).trans s5); go_simp; (try with_reducible rfl))
        try simp only [Act.put, List.setIfInBounds_toArray, List.set_cons_zero, List.set_cons_succ]
        refine rgTake (i := 15) (d := 40) (v := ?_) rfl rfl (by kernel_rfl) (by kernel_rfl) (by kernel_rfl) (fun _ _ _ h => h) (by rfl) ?_ (by assumption) ?_
        rotate_left
        · ((intro w hSw); (try dsimp only at hSw); go_simp; (try with_reducible rfl))
        try simp only [Act.put, List.setIfInBounds_toArray, List.set_cons_zero, List.set_cons_succ]
        refine rgTake (i := 16) (d := 41) (v := ?_) rfl rfl (by kernel_rfl) (by kernel_rfl) (by kernel_rfl) (fun _ _ _ h => h) (by rfl) ?_ (by assumption) ?_
        rotate_left
        · ((intro w hSw); (try dsimp only at hSw); go_simp; (try with_reducible rfl))
        try simp only [Act.put, List.setIfInBounds_toArray, List.set_cons_zero, List.set_cons_succ]
        refine rgTake (i := 17) (d := 42) (v := ?_) rfl rfl (by kernel_rfl) (by kernel_rfl) (by kernel_rfl) (fun _ _ _ h => h) (by rfl) ?_ (by assumption) ?_
        rotate_left
        · ((intro w hSw); (try dsimp only at hSw); go_simp; (try with_reducible rfl))
        try simp only [Act.put, List.setIfInBounds_toArray, List.set_cons_zero, List.set_cons_succ]
        refine rgTake (i := 18) (d := 43) (v := ?_) rfl rfl (by kernel_rfl) (by kernel_rfl) (by kernel_rfl) (fun _ _ _ h => h) (by rfl) ?_ (by assumption) ?_
        rotate_left
        · ((intro w hSw); (try dsimp only at hSw); (have l0 := (hSw.cell (p := ⟨bl, ol, none⟩) hbl).trans l0; have l1 := (hSw.cell (p := ⟨bl, ol + 1, none⟩) hbl).trans l1; have l2 := (hSw.cell (p := ⟨bl, ol + 2, none⟩) hbl).trans l2; have s1 := (hSw.cell (p := ⟨bw, ow + 1, none⟩) hbw).trans s1; have s3 := (hSw.cell (p := ⟨bw, ow + 3, none⟩) hbw).trans s3; have s5 := (hSw.cell (p := ⟨bw, ow + 5, none⟩) hbw).trans s5); go_simp; (try with_reducible rfl))
        try simp only [Act.put, List.setIfInBounds_toArray, List.set_cons_zero, List.set_cons_succ]
        refine rgTake (i := 19) (d := 44) (v := ?_) rfl rfl (by kernel_rfl) (by kernel_rfl) (by kernel_rfl) (fun _ _ _ h => h) (by rfl) ?_ (by assumption) ?_
        rotate_left
        · ((intro w hSw); (try dsimp only at hSw); go_simp; (try with_reducible rfl))
        try simp only [Act.put, List.setIfInBounds_toArray, List.set_cons_zero, List.set_cons_succ]
        refine wpAnyH_ready (rs := [20]) (by kernel_rfl) (by simp) ?_
        refine AllReadyH.cons rfl (fun K hK => ?_) AllReadyH.nil
        go_simp
        refine hK.out _ _ ?_ (fun hHeld => ?_)
        · (try dsimp only)
          exact hHeld.alloc hHeld.size _
        clear hK K
        try simp only [Act.put, List.setIfInBounds_toArray, List.set_cons_zero, List.set_cons_succ]
        refine wpAnyH_ready (rs := [21]) (by kernel_rfl) (by simp) ?_
        refine AllReadyH.cons rfl (fun K hK => ?_) AllReadyH.nil
        go_simp
        refine hK.out _ _ ?_ (fun hHeld => ?_)
        · (try dsimp only)
          exact (fun h9 : Below w8.heap.size w8 wx => h9.alloc h9.size _) (by assumption)
        clear hK K
        try simp only [Act.put, List.setIfInBounds_toArray, List.set_cons_zero, List.set_cons_succ]
        refine wpAnyH_done (by kernel_rfl) ?_ _
        go_wp2_with fail
        go_meet
        exact ⟨rfl, by have h9 := Blk.new wx 41 r.cells; rw [hwx] at h9; exact h9, hHeld⟩
      case rest =>
      obtain ⟨rfl, B, hb⟩ := hcut
      replace Z := Z.on hb
      replace G := G.trans (hb.mono G.size)
      have zn : r.name.size ≤ maxLen := by simp only [maxLen]; omega
      have zc : r.club.size ≤ maxLen := by simp only [maxLen]; omega
      have q1 := neb_test (rtB r) s
      have q2 := eqb_test (rtB r) s
      obtain ⟨b0, b1, b2, b3, b4, b5⟩ := blk6 B
      clear hb l0 l1 l2 s1 s3 s5 r6 hbl hbw
      cases hok : rnOk r
      · have HP := Lib.hid (pr_no2 (s := s) (by rw [HRR.out]; exact hok))
        go_wp2_with fail
        refine (IsRunner_impl r _ zn zc).mono ?_
        rintro e w10 ⟨rfl, hb⟩
        rw [hok]
        replace Z := Z.on hb
        replace G := G.trans (hb.mono G.size)
        clear hb b0 b1 b2 b3 b4 b5 B
        obtain ⟨z0, z1, z2, z3, z4, z5⟩ := RnAt.blk (r := rnZ0) Z
        simp only [Nat.zero_add] at z1 z2 z3 z4 z5
        have f0 := Z.frozen 0
        have f1 := Z.frozen 1
        have f2 := Z.frozen 2
        have f3 := Z.frozen 3
        have f4 := Z.frozen 4
        have f5 := Z.frozen 5
        have Z2 := Z.put6 0 rnZ0
        obtain ⟨q0, q1, q2, q3, q4, q5⟩ := RnAt.blk (r := rnZ0) Z2
        simp only [Nat.zero_add] at q0 q1 q2 q3 q4 q5
        have GP := below_put6 G (Nat.le_refl _) 0 rnZ0
        simp only [Nat.zero_add] at GP
        simp only [rnZ0] at q0 q1 q2 q3 q4 q5
        clear Z2
        go_wp2_with fail
        refine bodyPost_ret (v := .tuple #[.agg #[.int .i64 0, .string ⟨#[]⟩, .string ⟨#[]⟩, .int .i64 0, .bool false, .int .i64 0], .bool false]) (by simp [results, Tryz.results23, go_sem, q0, q1, q2, q3, q4, q5]) rfl ⟨by rw [HP.out.1, HP.out.2] <;> rfl, GP⟩
      · cases hz : decide (rtB r = s)
        · have HP := Lib.hid (pr_no3 (s := s) (by rw [HRR.out]; exact hz))
          rw [hz] at q1 q2
          rw [Bool.not_false] at q1
          go_wp2_with fail
          refine (IsRunner_impl r _ zn zc).mono ?_
          rintro e w10 ⟨rfl, hb⟩
          rw [hok]
          replace Z := Z.on hb
          replace B := B.on hb
          replace G := G.trans (hb.mono G.size)
          clear hb b0 b1 b2 b3 b4 b5
          obtain ⟨b0, b1, b2, b3, b4, b5⟩ := blk6 B
          go_wp2_with fail
          refine (runnerText_any hok (T.on G)).mono ?_
          rintro e w11 ⟨rfl, hb⟩
          replace Z := Z.on hb
          replace G := G.trans (hb.mono G.size)
          clear hb b0 b1 b2 b3 b4 b5 B
          obtain ⟨z0, z1, z2, z3, z4, z5⟩ := RnAt.blk (r := rnZ0) Z
          simp only [Nat.zero_add] at z1 z2 z3 z4 z5
          have f0 := Z.frozen 0
          have f1 := Z.frozen 1
          have f2 := Z.frozen 2
          have f3 := Z.frozen 3
          have f4 := Z.frozen 4
          have f5 := Z.frozen 5
          have Z2 := Z.put6 0 rnZ0
          obtain ⟨q0, q1, q2, q3, q4, q5⟩ := RnAt.blk (r := rnZ0) Z2
          simp only [Nat.zero_add] at q0 q1 q2 q3 q4 q5
          have GP := below_put6 G (Nat.le_refl _) 0 rnZ0
          simp only [Nat.zero_add] at GP
          simp only [rnZ0] at q0 q1 q2 q3 q4 q5
          clear Z2
          go_wp2_with fail
          refine bodyPost_ret (v := .tuple #[.agg #[.int .i64 0, .string ⟨#[]⟩, .string ⟨#[]⟩, .int .i64 0, .bool false, .int .i64 0], .bool false]) (by simp [results, Tryz.results23, go_sem, q0, q1, q2, q3, q4, q5]) rfl ⟨by rw [HP.out.1, HP.out.2] <;> rfl, GP⟩
        · have HP := Lib.hid (pr_some hok (of_decide_eq_true hz))
          rw [hz] at q1 q2
          rw [Bool.not_true] at q1
          go_wp2_with fail
          refine (IsRunner_impl r _ zn zc).mono ?_
          rintro e w10 ⟨rfl, hb⟩
          rw [hok]
          replace Z := Z.on hb
          replace B := B.on hb
          replace G := G.trans (hb.mono G.size)
          clear hb b0 b1 b2 b3 b4 b5
          obtain ⟨b0, b1, b2, b3, b4, b5⟩ := blk6 B
          go_wp2_with fail
          refine (runnerText_any hok (T.on G)).mono ?_
          rintro e w11 ⟨rfl, hb⟩
          replace Z := Z.on hb
          replace B := B.on hb
          replace G := G.trans (hb.mono G.size)
          clear hb b0 b1 b2 b3 b4 b5
          go_upto_region 10 with (fail)
          obtain ⟨c0, c1, c2, c3, c4, c5⟩ := RnAt.blk (r := r) B
          simp only [Nat.zero_add] at c1 c2 c3 c4 c5
          obtain ⟨z0, z1, z2, z3, z4, z5⟩ := RnAt.blk (r := rnZ0) Z
          simp only [Nat.zero_add] at z1 z2 z3 z4 z5
          have f0 := Z.frozen 0
          have f1 := Z.frozen 1
          have f2 := Z.frozen 2
          have f3 := Z.frozen 3
          have f4 := Z.frozen 4
          have f5 := Z.frozen 5
          have Z2 := Z.put6 0 r
          obtain ⟨q0, q1, q2, q3, q4, q5⟩ := RnAt.blk (r := r) Z2
          simp only [Nat.zero_add] at q0 q1 q2 q3 q4 q5
          have GP := below_put6 G (Nat.le_refl _) 0 r
          simp only [Nat.zero_add] at GP
          clear Z2
          go_wp2_with fail
          refine bodyPost_ret (v := .tuple #[.agg #[.int .i64 r.id, .string r.name, .string r.club, .int .i64 r.born, .bool r.woman, .int .i64 r.card], .bool true]) (by simp [results, Tryz.results23, go_sem, q0, q1, q2, q3, q4, q5]) rfl ⟨by rw [HP.out.1, HP.out.2] <;> rfl, GP⟩
  · have HW : Hid (ws8 (cuts s 32) = cuts s 32) := (by unfold ws8; rw [if_neg (by rw [hn]; exact h6)] : ws8 (cuts s 32) = _)
    have HSZ : Hid (∀ x ∈ ws8 (cuts s 32), x.size ≤ 1048576) := (by
      rw [HW.out]
      intro x hx
      exact Nat.le_trans (HCS.out x hx) hs : ∀ x ∈ ws8 (cuts s 32), x.size ≤ 1048576)
    have h6i : ¬ (n : Int) = 6 := by omega
    have h6b : ((n : Int) == 6) = false := by simpa using h6i
    go_enter Tryz.func23, Tryz.ntmps23
    go_wp2_with fail
    refine (Split_any s 32 _ hs (M.on G)).mono ?_
    rintro e w7 ⟨rfl, B, hb⟩
    rw [hn, World.size_alloc]
    rw [World.size_alloc] at B
    have Z7 := Z.on hb
    have G7 := G.trans (hb.mono G.size)
    have P7 : Rd w7 w7.heap.size 1 (some ⟨w.heap.size + 1, 0, none⟩) n (strs (ws8 (cuts s 32))) := by
      rw [HW.out]
      exact B.rd (by rw [strs_len, hn]; omega)
    have HL8 : Hid ((ws8 (cuts s 32)).length = n) := (by rw [HW.out]; exact hn : (ws8 (cuts s 32)).length = n)
    generalize (some ⟨w.heap.size + 1, 0, none⟩ : Option Addr) = A7 at *
    clear hb B Z G hn
    have HT := T.on G7
    have HY := Y.on G7
    have ZL := G7.size
    have HI := Lib.hid ((Blk.new w7 3 (ints ([0, 4, 7].map fun p : Nat => (p : Int)))).rd (size := 1) (n := 3) rfl)
    have GA := G7.alloc ZL (.cells (ints ([0, 4, 7].map fun p : Nat => (p : Int))).toArray 3)
    have ZA := Z7.alloc (.cells (ints ([0, 4, 7].map fun p : Nat => (p : Int))).toArray 3)
    have PA := Lib.hid (P7.on (Below.alloc (Below.refl _ _) (Nat.le_refl _) (.cells (ints ([0, 4, 7].map fun p : Nat => (p : Int))).toArray 3)))
    have TA := Lib.hid (T.on GA)
    have YA := Lib.hid (Y.on GA)
    have HZA := Lib.hid ZA
    have HGA := Lib.hid GA
    clear GA ZA G7 Z7 P7 HT HY
    go_wp2_with fail
    refine (numbersIn_any (ws := ws8 (cuts s 32)) (ps := [0, 4, 7]) PA.out HI.out (by omega) (by omega) (by omega) HSZ.out (by decide) TA.out YA.out).mono ?_
    rintro e w8 ⟨O, k, q, rfl, hO, hb⟩
    have Z := HZA.out.on hb
    have G := HGA.out.trans (hb.mono HGA.out.size)
    have PB := PA.out.on hb
    clear PA TA YA HZA HGA HI
    cases hnm : nmOk (ws8 (cuts s 32)) [0, 4, 7]
    · have HP := Lib.hid (pr_no1 hnm)
      rw [hnm] at hO
      clear hnm hO PB hb
      obtain ⟨z0, z1, z2, z3, z4, z5⟩ := RnAt.blk (r := rnZ0) Z
      simp only [Nat.zero_add] at z1 z2 z3 z4 z5
      have f0 := Z.frozen 0
      have f1 := Z.frozen 1
      have f2 := Z.frozen 2
      have f3 := Z.frozen 3
      have f4 := Z.frozen 4
      have f5 := Z.frozen 5
      have Z2 := Z.put6 0 rnZ0
      obtain ⟨q0, q1, q2, q3, q4, q5⟩ := RnAt.blk (r := rnZ0) Z2
      simp only [Nat.zero_add] at q0 q1 q2 q3 q4 q5
      have GP := below_put6 G (Nat.le_refl _) 0 rnZ0
      simp only [Nat.zero_add] at GP
      simp only [rnZ0] at q0 q1 q2 q3 q4 q5
      clear Z2
      go_wp2_with fail
      refine bodyPost_ret (v := .tuple #[.agg #[.int .i64 0, .string ⟨#[]⟩, .string ⟨#[]⟩, .int .i64 0, .bool false, .int .i64 0], .bool false]) (by simp [results, Tryz.results23, go_sem, q0, q1, q2, q3, q4, q5]) rfl ⟨by rw [HP.out.1, HP.out.2] <;> rfl, GP⟩
    · obtain ⟨rfl, O8⟩ := hO hnm
      obtain ⟨hl8, _, _, _⟩ := nm_len hnm
      have hl8n : 8 ≤ n := by have := HL8.out; omega
      obtain ⟨bl, ol, rfl, hbl, hcl⟩ := (Rd.of_own O8).int (show 0 < 3 by omega)
      have HNM := Lib.hid hnm
      obtain ⟨bw, ow, rfl, hbw, hcw⟩ := PB.str (by omega)
      have hq3 : 3 ≤ q := own_cap O8
      have l0 : w8.cell? ⟨bl, ol, none⟩ = some (.int .i64 (rdV (wd (ws8 (cuts s 32)) 0))) := (hcl 0 (show (0 : Nat) < 3 by decide)).trans rfl
      have l1 : w8.cell? ⟨bl, ol + 1, none⟩ = some (.int .i64 (rdV (wd (ws8 (cuts s 32)) 4))) := (hcl 1 (show (1 : Nat) < 3 by decide)).trans rfl
      have l2 : w8.cell? ⟨bl, ol + 2, none⟩ = some (.int .i64 (rdV (wd (ws8 (cuts s 32)) 7))) := (hcl 2 (show (2 : Nat) < 3 by decide)).trans rfl
      have s1 : w8.cell? ⟨bw, ow + 1, none⟩ = some (.string (wd (ws8 (cuts s 32)) 1)) := by rw [wd_get (by omega)]; exact hcw 1 (by omega)
      have s3 : w8.cell? ⟨bw, ow + 3, none⟩ = some (.string (wd (ws8 (cuts s 32)) 3)) := by rw [wd_get (by omega)]; exact hcw 3 (by omega)
      have s5 : w8.cell? ⟨bw, ow + 5, none⟩ = some (.string (wd (ws8 (cuts s 32)) 5)) := by rw [wd_get (by omega)]; exact hcw 5 (by omega)
      have z1 := wd_mem HSZ.out (k := 1) (by omega)
      have z3 := wd_mem HSZ.out (k := 3) (by omega)
      obtain ⟨r, hr⟩ : ∃ r, candI (ws8 (cuts s 32)) = r := ⟨_, rfl⟩
      have HRR := Lib.hid hr
      have r1 : wd (ws8 (cuts s 32)) 1 = r.name := by rw [← hr]; rfl
      have r2 : wd (ws8 (cuts s 32)) 3 = r.club := by rw [← hr]; rfl
      have r3 : rdV (wd (ws8 (cuts s 32)) 0) = r.id := by rw [← hr]; rfl
      have r4 : rdV (wd (ws8 (cuts s 32)) 4) = r.born := by rw [← hr]; rfl
      have r5 : rdV (wd (ws8 (cuts s 32)) 7) = r.card := by rw [← hr]; rfl
      have r6 : ((wd (ws8 (cuts s 32)) 5).toList == [119]) = r.woman := by rw [← hr]; exact eqb_lit _ [119]
      rw [r1] at s1 z1
      rw [r2] at s3 z3
      rw [r3] at l0
      rw [r4] at l1
      rw [r5] at l2
      generalize wd (ws8 (cuts s 32)) 5 = x5 at *
      clear hcl hcw PB hr r1 r2 r3 r4 r5 O8 hO hnm hb
      have n1 : 1 < n := by omega
      have n3 : 3 < n := by omega
      have n5 : 5 < n := by omega
      have n1i : (1 : Int) < (n : Int) := by omega
      have n3i : (3 : Int) < (n : Int) := by omega
      have n5i : (5 : Int) < (n : Int) := by omega
      go_wp2_with fail
      go_upto_region 7 with (fail)
      have HB8 : Hid (Below w8.heap.size w8 w8) := (Below.refl _ _ : Below w8.heap.size w8 w8)
      go_cut [7] (fun x wx => x = .pointer (some ⟨w8.heap.size, 0, none⟩) ∧ Blk wx w8.heap.size 41 r.cells ∧ Below w8.heap.size w8 wx)
      case first =>
        refine wp_region_held_drew (S := fun w' => Below w8.heap.size w8 w') (by kernel_rfl) ?_ (fun hHeld => ?_)
        · (try dsimp only)
          first | exact Below.drew (Below.refl _ _) | exact hHeld
        have hwx : w8.drew.heap.size = w8.heap.size := rfl; generalize w8.drew = wx at *
        refine rgTake (i := 0) (d := 25) (v := ?_) rfl rfl (by kernel_rfl) (by kernel_rfl) (by kernel_rfl) (fun _ _ _ h => h) (by rfl) ?_ (by assumption) ?_
        rotate_left
        · ((intro w hSw); (try dsimp only at hSw); go_simp; (try with_reducible rfl))
        try simp only [Act.put, List.setIfInBounds_toArray, List.set_cons_zero, List.set_cons_succ]
        refine rgTake (i := 1) (d := 26) (v := ?_) rfl rfl (by kernel_rfl) (by kernel_rfl) (by kernel_rfl) (fun _ _ _ h => h) (by rfl) ?_ (by assumption) ?_
        rotate_left
        · ((intro w hSw); (try dsimp only at hSw); go_simp; (try with_reducible rfl))
        try simp only [Act.put, List.setIfInBounds_toArray, List.set_cons_zero, List.set_cons_succ]
        refine rgTake (i := 2) (d := 27) (v := ?_) rfl rfl (by kernel_rfl) (by kernel_rfl) (by kernel_rfl) (fun _ _ _ h => h) (by rfl) ?_ (by assumption) ?_
        rotate_left
        · ((intro w hSw); (try dsimp only at hSw); (have l0 := (hSw.cell (p := ⟨bl, ol, none⟩) hbl).trans l0; have l1 := (hSw.cell (p := ⟨bl, ol + 1, none⟩) hbl).trans l1; have l2 := (hSw.cell (p := ⟨bl, ol + 2, none⟩) hbl).trans l2; have s1 := (hSw.cell (p := ⟨bw, ow + 1, none⟩) hbw).trans s1; have s3 := (hSw.cell (p := ⟨bw, ow + 3, none⟩) hbw).trans s3; have s5 := (hSw.cell (p := ⟨bw, ow + 5, none⟩) hbw).trans s5); go_simp; (try with_reducible rfl))
        try simp only [Act.put, List.setIfInBounds_toArray, List.set_cons_zero, List.set_cons_succ]
        refine rgTake (i := 3) (d := 28) (v := ?_) rfl rfl (by kernel_rfl) (by kernel_rfl) (by kernel_rfl) (fun _ _ _ h => h) (by rfl) ?_ (by assumption) ?_
        rotate_left
        · ((intro w hSw); (try dsimp only at hSw); go_simp; (try with_reducible rfl))
        try simp only [Act.put, List.setIfInBounds_toArray, List.set_cons_zero, List.set_cons_succ]
        refine rgTake (i := 4) (d := 29) (v := ?_) rfl rfl (by kernel_rfl) (by kernel_rfl) (by kernel_rfl) (fun _ _ _ h => h) (by rfl) ?_ (by assumption) ?_
        rotate_left
        · ((intro w hSw); (try dsimp only at hSw); go_simp; (try with_reducible rfl))
        try simp only [Act.put, List.setIfInBounds_toArray, List.set_cons_zero, List.set_cons_succ]
        refine rgTake (i := 5) (d := 30) (v := ?_) rfl rfl (by kernel_rfl) (by kernel_rfl) (by kernel_rfl) (fun _ _ _ h => h) (by rfl) ?_ (by assumption) ?_
        rotate_left
        · ((intro w hSw); (try dsimp only at hSw); (have l0 := (hSw.cell (p := ⟨bl, ol, none⟩) hbl).trans l0; have l1 := (hSw.cell (p := ⟨bl, ol + 1, none⟩) hbl).trans l1; have l2 := (hSw.cell (p := ⟨bl, ol + 2, none⟩) hbl).trans l2; have s1 := (hSw.cell (p := ⟨bw, ow + 1, none⟩) hbw).trans s1; have s3 := (hSw.cell (p := ⟨bw, ow + 3, none⟩) hbw).trans s3; have s5 := (hSw.cell (p := ⟨bw, ow + 5, none⟩) hbw).trans s5); go_simp; (try with_reducible rfl))
        try simp only [Act.put, List.setIfInBounds_toArray, List.set_cons_zero, List.set_cons_succ]
        refine rgTake (i := 6) (d := 31) (v := ?_) rfl rfl (by kernel_rfl) (by kernel_rfl) (by kernel_rfl) (fun _ _ _ h => h) (by rfl) ?_ (by assumption) ?_
        rotate_left
        · ((intro w hSw); (try dsimp only at hSw); go_simp; (try with_reducible rfl))
        try simp only [Act.put, List.setIfInBounds_toArray, List.set_cons_zero, List.set_cons_succ]
        refine rgTake (i := 7) (d := 32) (v := ?_) rfl rfl (by kernel_rfl) (by kernel_rfl) (by kernel_rfl) (fun _ _ _ h => h) (by rfl) ?_ (by assumption) ?_
        rotate_left
        · ((intro w hSw); (try dsimp only at hSw); go_simp; (try with_reducible rfl))
        try simp only [Act.put, List.setIfInBounds_toArray, List.set_cons_zero, List.set_cons_succ]
        refine rgTake (i := 8) (d := 33) (v := ?_) rfl rfl (by kernel_rfl) (by kernel_rfl) (by kernel_rfl) (fun _ _ _ h => h) (by rfl) ?_ (by assumption) ?_
        rotate_left
        · ((intro w hSw); (try dsimp only at hSw); (have l0 := (hSw.cell (p := ⟨bl, ol, none⟩) hbl).trans l0; have l1 := (hSw.cell (p := ⟨bl, ol + 1, none⟩) hbl).trans l1; have l2 := (hSw.cell (p := ⟨bl, ol + 2, none⟩) hbl).trans l2; have s1 := (hSw.cell (p := ⟨bw, ow + 1, none⟩) hbw).trans s1; have s3 := (hSw.cell (p := ⟨bw, ow + 3, none⟩) hbw).trans s3; have s5 := (hSw.cell (p := ⟨bw, ow + 5, none⟩) hbw).trans s5); go_simp; (try with_reducible rfl))
        try simp only [Act.put, List.setIfInBounds_toArray, List.set_cons_zero, List.set_cons_succ]
        refine rgTake (i := 9) (d := 34) (v := ?_) rfl rfl (by kernel_rfl) (by kernel_rfl) (by kernel_rfl) (fun _ _ _ h => h) (by rfl) ?_ (by assumption) ?_
        rotate_left
        · ((intro w hSw); (try dsimp only at hSw); go_simp; (try with_reducible rfl))
        try simp only [Act.put, List.setIfInBounds_toArray, List.set_cons_zero, List.set_cons_succ]
        refine rgTake (i := 10) (d := 35) (v := ?_) rfl rfl (by kernel_rfl) (by kernel_rfl) (by kernel_rfl) (fun _ _ _ h => h) (by rfl) ?_ (by assumption) ?_
        rotate_left
        · ((intro w hSw); (try dsimp only at hSw); go_simp; (try with_reducible rfl))
        try simp only [Act.put, List.setIfInBounds_toArray, List.set_cons_zero, List.set_cons_succ]
        refine rgTake (i := 11) (d := 36) (v := ?_) rfl rfl (by kernel_rfl) (by kernel_rfl) (by kernel_rfl) (fun _ _ _ h => h) (by rfl) ?_ (by assumption) ?_
        rotate_left
        · ((intro w hSw); (try dsimp only at hSw); (have l0 := (hSw.cell (p := ⟨bl, ol, none⟩) hbl).trans l0; have l1 := (hSw.cell (p := ⟨bl, ol + 1, none⟩) hbl).trans l1; have l2 := (hSw.cell (p := ⟨bl, ol + 2, none⟩) hbl).trans l2; have s1 := (hSw.cell (p := ⟨bw, ow + 1, none⟩) hbw).trans s1; have s3 := (hSw.cell (p := ⟨bw, ow + 3, none⟩) hbw).trans s3; have s5 := (hSw.cell (p := ⟨bw, ow + 5, none⟩) hbw).trans s5); go_simp; (try with_reducible rfl))
        try simp only [Act.put, List.setIfInBounds_toArray, List.set_cons_zero, List.set_cons_succ]
        refine rgTake (i := 12) (d := 37) (v := ?_) rfl rfl (by kernel_rfl) (by kernel_rfl) (by kernel_rfl) (fun _ _ _ h => h) (by rfl) ?_ (by assumption) ?_
        rotate_left
        · ((intro w hSw); (try dsimp only at hSw); go_simp; (try with_reducible rfl))
        try simp only [Act.put, List.setIfInBounds_toArray, List.set_cons_zero, List.set_cons_succ]
        refine rgTake (i := 13) (d := 38) (v := ?_) rfl rfl (by kernel_rfl) (by kernel_rfl) (by kernel_rfl) (fun _ _ _ h => h) (by rfl) ?_ (by assumption) ?_
        rotate_left
        · ((intro w hSw); (try dsimp only at hSw); go_simp; (try with_reducible rfl))
        try simp only [Act.put, List.setIfInBounds_toArray, List.set_cons_zero, List.set_cons_succ]
        refine rgTake (i := 14) (d := 39) (v := ?_) rfl rfl (by kernel_rfl) (by kernel_rfl) (by kernel_rfl) (fun _ _ _ h => h) (by rfl) ?_ (by assumption) ?_
        rotate_left
        · ((intro w hSw); (try dsimp only at hSw); (have l0 := (hSw.cell (p := ⟨bl, ol, none⟩) hbl).trans l0; have l1 := (hSw.cell (p := ⟨bl, ol + 1, none⟩) hbl).trans l1; have l2 := (hSw.cell (p := ⟨bl, ol + 2, none⟩) hbl).trans l2; have s1 := (hSw.cell (p := ⟨bw, ow + 1, none⟩) hbw).trans s1; have s3 := (hSw.cell (p := ⟨bw, ow + 3, none⟩) hbw).trans s3; have s5 := (hSw.cell (p := ⟨bw, ow + 5, none⟩) hbw).trans s5); go_simp; (try with_reducible rfl))
        try simp only [Act.put, List.setIfInBounds_toArray, List.set_cons_zero, List.set_cons_succ]
        refine rgTake (i := 15) (d := 40) (v := ?_) rfl rfl (by kernel_rfl) (by kernel_rfl) (by kernel_rfl) (fun _ _ _ h => h) (by rfl) ?_ (by assumption) ?_
        rotate_left
        · ((intro w hSw); (try dsimp only at hSw); go_simp; (try with_reducible rfl))
        try simp only [Act.put, List.setIfInBounds_toArray, List.set_cons_zero, List.set_cons_succ]
        refine rgTake (i := 16) (d := 41) (v := ?_) rfl rfl (by kernel_rfl) (by kernel_rfl) (by kernel_rfl) (fun _ _ _ h => h) (by rfl) ?_ (by assumption) ?_
        rotate_left
        · ((intro w hSw); (try dsimp only at hSw); go_simp; (try with_reducible rfl))
        try simp only [Act.put, List.setIfInBounds_toArray, List.set_cons_zero, List.set_cons_succ]
        refine rgTake (i := 17) (d := 42) (v := ?_) rfl rfl (by kernel_rfl) (by kernel_rfl) (by kernel_rfl) (fun _ _ _ h => h) (by rfl) ?_ (by assumption) ?_
        rotate_left
        · ((intro w hSw); (try dsimp only at hSw); go_simp; (try with_reducible rfl))
        try simp only [Act.put, List.setIfInBounds_toArray, List.set_cons_zero, List.set_cons_succ]
        refine rgTake (i := 18) (d := 43) (v := ?_) rfl rfl (by kernel_rfl) (by kernel_rfl) (by kernel_rfl) (fun _ _ _ h => h) (by rfl) ?_ (by assumption) ?_
        rotate_left
        · ((intro w hSw); (try dsimp only at hSw); (have l0 := (hSw.cell (p := ⟨bl, ol, none⟩) hbl).trans l0; have l1 := (hSw.cell (p := ⟨bl, ol + 1, none⟩) hbl).trans l1; have l2 := (hSw.cell (p := ⟨bl, ol + 2, none⟩) hbl).trans l2; have s1 := (hSw.cell (p := ⟨bw, ow + 1, none⟩) hbw).trans s1; have s3 := (hSw.cell (p := ⟨bw, ow + 3, none⟩) hbw).trans s3; have s5 := (hSw.cell (p := ⟨bw, ow + 5, none⟩) hbw).trans s5); go_simp; (try with_reducible rfl))
        try simp only [Act.put, List.setIfInBounds_toArray, List.set_cons_zero, List.set_cons_succ]
        refine rgTake (i := 19) (d := 44) (v := ?_) rfl rfl (by kernel_rfl) (by kernel_rfl) (by kernel_rfl) (fun _ _ _ h => h) (by rfl) ?_ (by assumption) ?_
        rotate_left
        · ((intro w hSw); (try dsimp only at hSw); go_simp; (try with_reducible rfl))
        try simp only [Act.put, List.setIfInBounds_toArray, List.set_cons_zero, List.set_cons_succ]
        refine wpAnyH_ready (rs := [20]) (by kernel_rfl) (by simp) ?_
        refine AllReadyH.cons rfl (fun K hK => ?_) AllReadyH.nil
        go_simp
        refine hK.out _ _ ?_ (fun hHeld => ?_)
        · (try dsimp only)
          exact hHeld.alloc hHeld.size _
        clear hK K
        try simp only [Act.put, List.setIfInBounds_toArray, List.set_cons_zero, List.set_cons_succ]
        refine wpAnyH_ready (rs := [21]) (by kernel_rfl) (by simp) ?_
        refine AllReadyH.cons rfl (fun K hK => ?_) AllReadyH.nil
        go_simp
        refine hK.out _ _ ?_ (fun hHeld => ?_)
        · (try dsimp only)
          exact (fun h9 : Below w8.heap.size w8 wx => h9.alloc h9.size _) (by assumption)
        clear hK K
        try simp only [Act.put, List.setIfInBounds_toArray, List.set_cons_zero, List.set_cons_succ]
        refine wpAnyH_done (by kernel_rfl) ?_ _
        go_wp2_with fail
        go_meet
        exact ⟨rfl, by have h9 := Blk.new wx 41 r.cells; rw [hwx] at h9; exact h9, hHeld⟩
      case rest =>
      obtain ⟨rfl, B, hb⟩ := hcut
      replace Z := Z.on hb
      replace G := G.trans (hb.mono G.size)
      have zn : r.name.size ≤ maxLen := by simp only [maxLen]; omega
      have zc : r.club.size ≤ maxLen := by simp only [maxLen]; omega
      have q1 := neb_test (rtB r) s
      have q2 := eqb_test (rtB r) s
      obtain ⟨b0, b1, b2, b3, b4, b5⟩ := blk6 B
      clear hb l0 l1 l2 s1 s3 s5 r6 hbl hbw
      cases hok : rnOk r
      · have HP := Lib.hid (pr_no2 (s := s) (by rw [HRR.out]; exact hok))
        go_wp2_with fail
        refine (IsRunner_impl r _ zn zc).mono ?_
        rintro e w10 ⟨rfl, hb⟩
        rw [hok]
        replace Z := Z.on hb
        replace G := G.trans (hb.mono G.size)
        clear hb b0 b1 b2 b3 b4 b5 B
        obtain ⟨z0, z1, z2, z3, z4, z5⟩ := RnAt.blk (r := rnZ0) Z
        simp only [Nat.zero_add] at z1 z2 z3 z4 z5
        have f0 := Z.frozen 0
        have f1 := Z.frozen 1
        have f2 := Z.frozen 2
        have f3 := Z.frozen 3
        have f4 := Z.frozen 4
        have f5 := Z.frozen 5
        have Z2 := Z.put6 0 rnZ0
        obtain ⟨q0, q1, q2, q3, q4, q5⟩ := RnAt.blk (r := rnZ0) Z2
        simp only [Nat.zero_add] at q0 q1 q2 q3 q4 q5
        have GP := below_put6 G (Nat.le_refl _) 0 rnZ0
        simp only [Nat.zero_add] at GP
        simp only [rnZ0] at q0 q1 q2 q3 q4 q5
        clear Z2
        go_wp2_with fail
        refine bodyPost_ret (v := .tuple #[.agg #[.int .i64 0, .string ⟨#[]⟩, .string ⟨#[]⟩, .int .i64 0, .bool false, .int .i64 0], .bool false]) (by simp [results, Tryz.results23, go_sem, q0, q1, q2, q3, q4, q5]) rfl ⟨by rw [HP.out.1, HP.out.2] <;> rfl, GP⟩
      · cases hz : decide (rtB r = s)
        · have HP := Lib.hid (pr_no3 (s := s) (by rw [HRR.out]; exact hz))
          rw [hz] at q1 q2
          rw [Bool.not_false] at q1
          go_wp2_with fail
          refine (IsRunner_impl r _ zn zc).mono ?_
          rintro e w10 ⟨rfl, hb⟩
          rw [hok]
          replace Z := Z.on hb
          replace B := B.on hb
          replace G := G.trans (hb.mono G.size)
          clear hb b0 b1 b2 b3 b4 b5
          obtain ⟨b0, b1, b2, b3, b4, b5⟩ := blk6 B
          go_wp2_with fail
          refine (runnerText_any hok (T.on G)).mono ?_
          rintro e w11 ⟨rfl, hb⟩
          replace Z := Z.on hb
          replace G := G.trans (hb.mono G.size)
          clear hb b0 b1 b2 b3 b4 b5 B
          obtain ⟨z0, z1, z2, z3, z4, z5⟩ := RnAt.blk (r := rnZ0) Z
          simp only [Nat.zero_add] at z1 z2 z3 z4 z5
          have f0 := Z.frozen 0
          have f1 := Z.frozen 1
          have f2 := Z.frozen 2
          have f3 := Z.frozen 3
          have f4 := Z.frozen 4
          have f5 := Z.frozen 5
          have Z2 := Z.put6 0 rnZ0
          obtain ⟨q0, q1, q2, q3, q4, q5⟩ := RnAt.blk (r := rnZ0) Z2
          simp only [Nat.zero_add] at q0 q1 q2 q3 q4 q5
          have GP := below_put6 G (Nat.le_refl _) 0 rnZ0
          simp only [Nat.zero_add] at GP
          simp only [rnZ0] at q0 q1 q2 q3 q4 q5
          clear Z2
          go_wp2_with fail
          refine bodyPost_ret (v := .tuple #[.agg #[.int .i64 0, .string ⟨#[]⟩, .string ⟨#[]⟩, .int .i64 0, .bool false, .int .i64 0], .bool false]) (by simp [results, Tryz.results23, go_sem, q0, q1, q2, q3, q4, q5]) rfl ⟨by rw [HP.out.1, HP.out.2] <;> rfl, GP⟩
        · have HP := Lib.hid (pr_some hok (of_decide_eq_true hz))
          rw [hz] at q1 q2
          rw [Bool.not_true] at q1
          go_wp2_with fail
          refine (IsRunner_impl r _ zn zc).mono ?_
          rintro e w10 ⟨rfl, hb⟩
          rw [hok]
          replace Z := Z.on hb
          replace B := B.on hb
          replace G := G.trans (hb.mono G.size)
          clear hb b0 b1 b2 b3 b4 b5
          obtain ⟨b0, b1, b2, b3, b4, b5⟩ := blk6 B
          go_wp2_with fail
          refine (runnerText_any hok (T.on G)).mono ?_
          rintro e w11 ⟨rfl, hb⟩
          replace Z := Z.on hb
          replace B := B.on hb
          replace G := G.trans (hb.mono G.size)
          clear hb b0 b1 b2 b3 b4 b5
          go_upto_region 10 with (fail)
          obtain ⟨c0, c1, c2, c3, c4, c5⟩ := RnAt.blk (r := r) B
          simp only [Nat.zero_add] at c1 c2 c3 c4 c5
          obtain ⟨z0, z1, z2, z3, z4, z5⟩ := RnAt.blk (r := rnZ0) Z
          simp only [Nat.zero_add] at z1 z2 z3 z4 z5
          have f0 := Z.frozen 0
          have f1 := Z.frozen 1
          have f2 := Z.frozen 2
          have f3 := Z.frozen 3
          have f4 := Z.frozen 4
          have f5 := Z.frozen 5
          have Z2 := Z.put6 0 r
          obtain ⟨q0, q1, q2, q3, q4, q5⟩ := RnAt.blk (r := r) Z2
          simp only [Nat.zero_add] at q0 q1 q2 q3 q4 q5
          have GP := below_put6 G (Nat.le_refl _) 0 r
          simp only [Nat.zero_add] at GP
          clear Z2
          go_wp2_with fail
          refine bodyPost_ret (v := .tuple #[.agg #[.int .i64 r.id, .string r.name, .string r.club, .int .i64 r.born, .bool r.woman, .int .i64 r.card], .bool true]) (by simp [results, Tryz.results23, go_sem, q0, q1, q2, q3, q4, q5]) rfl ⟨by rw [HP.out.1, HP.out.2] <;> rfl, GP⟩
end Go.Proofs.YtmmpcchjalgokaaGreatDoor
