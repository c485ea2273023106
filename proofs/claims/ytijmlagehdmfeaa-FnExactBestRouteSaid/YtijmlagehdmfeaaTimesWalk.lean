/- Contracts: the least times of all cells to one, by the program: the walk. -/
import Derived.Test.YtijmlagehdmfeaaTimesTo
namespace Go.Proofs.Ytijmlagehdmfeaa
set_option linter.unusedVariables false
set_option linter.unusedSimpArgs false
open Go.RowKit
set_option maxRecDepth 100000 in
set_option maxHeartbeats 2000000 in
theorem timesTo_any {m : Mp} {v : Value} {b : Nat} {w : World} (hv : MapIn w m v) (V : Valid m) (hb : b < m.co.length) :
    Calls Try.prog 98 #[v, .int .i64 (b : Int)] w fun e w' => ∃ g, e = .returned (.slice (some ⟨g, 0, none⟩) m.co.length m.co.length) ∧ Blk w' g 3 (ints (encL (fin m b))) ∧ w.heap.size ≤ g ∧ Below w.heap.size w w' := by
  have hv' := hv
  obtain ⟨A, n, cp, B, k, d, rfl, h1, h2, h3, h4⟩ := hv
  have hkl := h2.len
  have hk36 : k ≤ 36 := by have := V.n36; omega
  have hbk : b < k := by omega
  obtain ⟨y, oy, rfl, hyb, hyc⟩ := h2.int (show 0 < k by omega)
  have HL := Lib.hid hkl
  have HB := Lib.hid hb
  have hmk := run_make_row' (P := Try.prog) 22 3 (.int .i64 0) 8 Try.underlying22 int_info rfl .i64 .i64 k (by omega) (by omega)
  have HI : Hid ((List.replicate k (Value.int .i64 1073741824)).set b (.int .i64 0) = ints (encL (initL m b))) := by show _ = _; rw [← hkl]; exact init_enc m b
  rw [hkl]
  clear hkl hb
  go_enter Try.func98, Try.ntmps98
  go_wp2_with fail
  go_loopw [19] (fun i wr => ∃ j : Nat, j ≤ k ∧ i = .int .i64 j ∧ (∃ cs : List Value, Blk wr (w.heap.size + 1) 3 cs ∧ cs.length = k ∧ cs.take j = (List.replicate k (Value.int .i64 1073741824)).take j) ∧ Blk wr w.heap.size 28 [.int .i64 m.wd, .int .i64 m.ht, .slice A n cp, .slice (some ⟨y, oy, none⟩) k d] ∧ Below w.heap.size w wr) (fun i _ => k - (intOf i).toNat)
  case atStart =>
    refine ⟨0, Nat.zero_le _, rfl, ⟨(madeCells #[.int .i64 0] k).toList, by
      have := Blk.new (w.alloc (.cells #[.int .i64 m.wd, .int .i64 m.ht, .slice A n cp, .slice (some ⟨y, oy, none⟩) k d] 28)) 3 (madeCells #[.int .i64 0] k).toList
      simpa using this, by simp [size_madeCells], by simp⟩, ?_, (by repeat (first | exact Below.refl _ _ | refine below_drewN ?_ _ | refine Below.drew ?_ | refine Below.alloc ?_ (by first | omega | (simp; done) | (simp; omega)) _ | refine Below.setCell ?_ (by first | omega | (simp; done) | (simp; omega)) _))⟩
    exact (Blk.new w 28 [.int .i64 m.wd, .int .i64 m.ht, .slice A n cp, .slice (some ⟨y, oy, none⟩) k d]).alloc _
  case round =>
    obtain ⟨j, hj, rfl, ⟨cs, O, hcl, hct⟩, K, G⟩ := hrel
    by_cases hlt : j < k
    · have kj : j < cs.length := by omega
      have c1 : wr.cell? ⟨w.heap.size + 1, j, none⟩ = some cs[j] := by rw [O.cell]; simp [kj]
      have f1 := O.frozen j
      go_wp2_with fail
      go_roundw
      case rel => exact ⟨j + 1, by omega, by go_num, ⟨_, O.set_ j _, by simp [hcl], by
        have := set_take (r := List.replicate k (Value.int .i64 1073741824)) (by simp [hcl]) (by simpa using hlt) hct
        simpa using this⟩, K.far (by simp) _, Below.setCell G (by simp) _⟩
      case measure => simp [intOf]; omega
    · have hjk : j = k := by omega
      subst hjk
      have hcs : cs = List.replicate j (Value.int .i64 1073741824) := by
        rw [List.take_of_length_le (by omega), List.take_of_length_le (by simp)] at hct
        exact hct
      subst hcs
      have c1 : wr.cell? ⟨w.heap.size + 1, b, none⟩ = some (.int .i64 1073741824) := by rw [O.cell]; simp [hbk]
      have f1 := O.frozen b
      go_wp2_with fail
      have O1 := O.set_ b (.int .i64 0)
      have K1 := K.far (p := ⟨w.heap.size + 1, b, none⟩) (by simp) (.int .i64 0)
      have G1 := Below.setCell (p := ⟨w.heap.size + 1, b, none⟩) G (by simp) (.int .i64 0)
      rw [HI.out] at O1
      clear O K G c1 f1 hcl hct
      have HL2 : Hid (m.co.length = j) := HL
      have hk1 : 1 ≤ j := by omega
      go_loopw [7] (fun ag wr => ∃ (r : Nat) (a : Bool), ag = .bool a ∧ Hid (Head m b r a) ∧ Blk wr (w.heap.size + 1) 3 (ints (encL (itL m b r))) ∧ Blk wr w.heap.size 28 [.int .i64 m.wd, .int .i64 m.ht, .slice A n cp, .slice (some ⟨y, oy, none⟩) j d] ∧ Below w.heap.size w wr) (fun ag wr => mW wr (w.heap.size + 1) + boolN ag)
      case atStart => exact ⟨0, true, rfl, Or.inl ⟨rfl, by show 0 + W (initL m b) ≤ _; omega⟩, O1, K1, G1⟩
      case round =>
        obtain ⟨r, a, rfl, HH, O, K, G⟩ := hrel
        cases a
        · go_wp2_with fail
          go_ret
          exact ⟨_, rfl, by rw [← HH.out.out]; exact O, by omega, G⟩
        · obtain ⟨k0, k1, k2, k3⟩ := blk4 K
          have I0 := Lib.hid (it_inv V HB.out r)
          have HN : Hid (itL m b (r + 1) = scan m (itL m b r)) := rfl
          have HM := Lib.hid (mW_blk O)
          go_wp2_with fail
          obtain ⟨L0, hL0⟩ : ∃ L, L = itL m b r := ⟨_, rfl⟩
          have HL0 := Lib.hid hL0
          rw [← hL0] at O
          clear hL0 k0 k1 k2 k3
          go_loopw [7, 33] (fun ag i wx => ∃ (q : Nat) (a' : Bool) (L : List Int), q ≤ j ∧ i = .int .i64 q ∧ ag = .bool a' ∧ Hid (L = (List.range q).foldl (row m) L0) ∧ Hid (Turned L0 L a') ∧ Hid (Inv m b L) ∧ Blk wx (w.heap.size + 1) 3 (ints (encL L)) ∧ Blk wx w.heap.size 28 [.int .i64 m.wd, .int .i64 m.ht, .slice A n cp, .slice (some ⟨y, oy, none⟩) j d] ∧ Below w.heap.size w wx) (fun _ i _ => j - (intOf i).toNat)
          case atStart => exact ⟨0, false, L0, Nat.zero_le _, rfl, rfl, rfl, Or.inl ⟨rfl, rfl⟩, by show Inv m b L0; rw [HL0.out]; exact I0.out, O, K, G⟩
          case round =>
            obtain ⟨q, a', L, hq, rfl, rfl, HE, HT, HV, Ox, Kx, Gx⟩ := hrel
            by_cases hqj : q < j
            · have kq : q < m.co.length := by rw [HL.out]; exact hqj
              have c1 := ((bcell Gx).1 y (oy + q) hyb).trans (hyc q kq)
              rw [← coA_nat] at c1
              by_cases hz : coA m q = 0
              · have hz0 : (coA m q == 0) = true := by simp [hz]
                have HR : Hid (row m L q = L) := by show _ = _; unfold row; rw [if_neg (by omega)]
                clear hz
                go_wp2_with fail
                go_roundw
                case rel => exact ⟨q + 1, a', L, by omega, by go_num, rfl, (show L = _ by rw [fold_succ, ← HE.out, HR.out]), HT, HV, Ox, Kx, Gx⟩
                case measure => simp [intOf]; omega
              · have hz0 : (coA m q == 0) = false := by simp [hz]
                have hpos := Lib.hid (show 0 < coA m q by have := V.co_bd q; omega)
                clear hz
                obtain ⟨k0, k1, k2, k3⟩ := blk4 Kx
                go_wp2_with fail
                refine (cellsNextTo_n (m := m) (hv'.on Gx) V kq).mono ?_
                rintro e w5 ⟨A5, cp5, rfl, own5, hb5⟩
                have O5 := Ox.on hb5
                have K5 := Kx.on hb5
                have G5 := Gx.trans (hb5.mono Gx.size)
                have l5 := nextN_len V q
                have ltO := Ox.lt
                have B5 : ∀ bk, Value.ownBlock (.slice A5 (nextN m q).length cp5) = some bk → w.heap.size + 1 < bk := fun bk hbk => by have := (own5.lt bk hbk).1; omega
                have HB5 := Lib.hid B5
                clear B5 k0 k1 k2 k3 hb5
                obtain ⟨nx, hnx⟩ : ∃ l, l = nextN m q := ⟨_, rfl⟩
                have HX := Lib.hid hnx
                rw [← hnx] at own5 l5 HB5
                go_wp2_with fail
                rw [← hnx]
                clear hnx
                go_loopw [7, 44] (fun ag i wz => ∃ (e : Nat) (a2 : Bool) (L2 : List Int), e ≤ nx.length ∧ i = .int .i64 e ∧ ag = .bool a2 ∧ Hid (L2 = (nx.take e).foldl (relax m q) L) ∧ Hid (Turned L0 L2 a2) ∧ Hid (Inv m b L2) ∧ Blk wz (w.heap.size + 1) 3 (ints (encL L2)) ∧ Blk wz w.heap.size 28 [.int .i64 m.wd, .int .i64 m.ht, .slice A n cp, .slice (some ⟨y, oy, none⟩) j d] ∧ wz.ownsRow wr.heap.size 3 1 (.slice A5 nx.length cp5) nx.length (ints (cast nx)) ∧ Below w.heap.size w wz) (fun _ i _ => nx.length - (intOf i).toNat)
                case atStart => exact ⟨0, a', L, Nat.zero_le _, rfl, rfl, rfl, HT, HV, O5, K5, own5, G5⟩
                case round =>
                  obtain ⟨e, a2, L2, he, rfl, rfl, HE2, HT2, HV2, Oz, Kz, ownz, Gz⟩ := hrel
                  by_cases hen : e < nx.length
                  · obtain ⟨x5, o5, rfl, _, hx5⟩ := (Rd.of_own ownz).int hen
                    have ec : e < (cast nx).length := by rw [cast_len]; exact hen
                    have c5 := hx5 e ec
                    rw [show (cast nx)[e] = ((nx[e] : Nat) : Int) by simp [cast]] at c5
                    have hmem : nx[e] ∈ nextN m q := by rw [← HX.out]; exact List.getElem_mem hen
                    have hnk : nx[e] < j := by have := (mem_nextN.1 hmem).1; have := HL2.out; omega
                    have hlen := HV2.out.len
                    have hnl : nx[e] < L2.length := by have := HL2.out; omega
                    have hql : q < L2.length := by have := HL2.out; omega
                    have HF := Lib.hid (fires_enc V HV2.out kq hmem)
                    have HS := Lib.hid (fold_take m q L nx e hen)
                    have sb := V.step_bd q nx[e]
                    have ub : enc (at_ L2 nx[e]) ≤ 1073741824 ∧ 0 ≤ enc (at_ L2 nx[e]) := by
                      have := HV2.out.all V _ (List.getElem_mem hnl)
                      rw [← at_get hnl] at this
                      unfold enc; split <;> omega
                    have EN := Lib.hid (encL_get hnl)
                    have EQ := Lib.hid (encL_get hql)
                    have HM2 := Lib.hid hmem
                    clear hx5 hmem hlen hnl hql ec
                    generalize nx[e] = z at *
                    have p5 : IntKind.i64.wrap (enc (at_ L2 z) + stepV m q z) = enc (at_ L2 z) + stepV m q z := IntWalk.i64_in _ (by omega)
                    go_wp2_with fail
                    refine wp_region_held_drew (S := fun w' => Blk w' w.heap.size 28 [.int .i64 m.wd, .int .i64 m.ht, .slice A n cp, .slice (some ⟨y, oy, none⟩) j d] ∧ Blk w' (w.heap.size + 1) 3 (ints (encL L2)) ∧ Below wr.heap.size wr w') (by kernel_rfl) ?_ (fun hHeld => ?_)
                    · (try dsimp only)
                      first | exact ⟨Kz.drew, Oz.drew, (Below.refl _ _).drew⟩ | exact ⟨hHeld.1.on hb6, hHeld.2.1.on hb6, hHeld.2.2.trans (hb6.mono hHeld.2.2.size)⟩
                    refine rgTake (i := 0) (d := 48) (v := ?_) rfl rfl (by kernel_rfl) (by kernel_rfl) (by kernel_rfl) (fun _ _ _ h => h) (by rfl) ?_ (by assumption) ?_
                    rotate_left
                    · ((intro w hSw); (try dsimp only at hSw); go_simp; (try with_reducible rfl))
                    try simp only [Act.put, List.setIfInBounds_toArray, List.set_cons_zero, List.set_cons_succ]
                    refine rgTake (i := 1) (d := 49) (v := ?_) rfl rfl (by kernel_rfl) (by kernel_rfl) (by kernel_rfl) (fun _ _ _ h => h) (by rfl) ?_ (by assumption) ?_
                    rotate_left
                    · ((intro w hSw); (try dsimp only at hSw); go_simp; (try with_reducible rfl))
                    try simp only [Act.put, List.setIfInBounds_toArray, List.set_cons_zero, List.set_cons_succ]
                    refine rgTake (i := 2) (d := 50) (v := ?_) rfl rfl (by kernel_rfl) (by kernel_rfl) (by kernel_rfl) (fun _ _ _ h => h) (by rfl) ?_ (by assumption) ?_
                    rotate_left
                    · ((intro w hSw); (try dsimp only at hSw); go_simp; (try with_reducible rfl))
                    try simp only [Act.put, List.setIfInBounds_toArray, List.set_cons_zero, List.set_cons_succ]
                    refine rgTake (i := 3) (d := 51) (v := ?_) rfl rfl (by kernel_rfl) (by kernel_rfl) (by kernel_rfl) (fun _ _ _ h => h) (by rfl) ?_ (by assumption) ?_
                    rotate_left
                    · ((intro w hSw); (try dsimp only at hSw); (obtain ⟨z0, z1, z2, z3⟩ := blk4 hSw.1; have zc := (hSw.2.1.cell z).trans EN.out); go_simp; (try with_reducible rfl))
                    try simp only [Act.put, List.setIfInBounds_toArray, List.set_cons_zero, List.set_cons_succ]
                    refine rgTake (i := 4) (d := 52) (v := ?_) rfl rfl (by kernel_rfl) (by kernel_rfl) (by kernel_rfl) (fun _ _ _ h => h) (by rfl) ?_ (by assumption) ?_
                    rotate_left
                    · ((intro w hSw); (try dsimp only at hSw); (obtain ⟨z0, z1, z2, z3⟩ := blk4 hSw.1; have zc := (hSw.2.1.cell z).trans EN.out); go_simp; (try with_reducible rfl))
                    try simp only [Act.put, List.setIfInBounds_toArray, List.set_cons_zero, List.set_cons_succ]
                    refine rgTake (i := 5) (d := 53) (v := ?_) rfl rfl (by kernel_rfl) (by kernel_rfl) (by kernel_rfl) (fun _ _ _ h => h) (by rfl) ?_ (by assumption) ?_
                    rotate_left
                    · ((intro w hSw); (try dsimp only at hSw); go_simp; (try with_reducible rfl))
                    try simp only [Act.put, List.setIfInBounds_toArray, List.set_cons_zero, List.set_cons_succ]
                    refine rgTake (i := 6) (d := 54) (v := ?_) rfl rfl (by kernel_rfl) (by kernel_rfl) (by kernel_rfl) (fun _ _ _ h => h) (by rfl) ?_ (by assumption) ?_
                    rotate_left
                    · ((intro w hSw); (try dsimp only at hSw); go_simp; (try with_reducible rfl))
                    try simp only [Act.put, List.setIfInBounds_toArray, List.set_cons_zero, List.set_cons_succ]
                    refine wpAnyH_ready (rs := [7]) (by kernel_rfl) (by simp) ?_
                    refine AllReadyH.cons rfl (fun K hK => ?_) AllReadyH.nil
                    go_simp
                    refine (stepTime_any (m := m) (hv'.on (Gz.trans (hHeld.2.2.mono Gz.size))) V (by omega) (by have := HL2.out; omega) (by omega) (by have := HL2.out; omega)).mono ?_; rintro e wy ⟨rfl, hb6⟩
                    go_wp2_with fail
                    refine hK.out _ _ ?_ (fun hHeld => ?_)
                    · (try dsimp only)
                      first | exact ⟨Kz.drew, Oz.drew, (Below.refl _ _).drew⟩ | exact ⟨hHeld.1.on hb6, hHeld.2.1.on hb6, hHeld.2.2.trans (hb6.mono hHeld.2.2.size)⟩
                    clear hK K
                    try simp only [Act.put, List.setIfInBounds_toArray, List.set_cons_zero, List.set_cons_succ]
                    refine rgTake (i := 8) (d := 56) (v := ?_) rfl rfl (by kernel_rfl) (by kernel_rfl) (by kernel_rfl) (fun _ _ _ h => h) (by rfl) ?_ (by assumption) ?_
                    rotate_left
                    · ((intro w hSw); (try dsimp only at hSw); go_simp; (try with_reducible rfl))
                    try simp only [Act.put, List.setIfInBounds_toArray, List.set_cons_zero, List.set_cons_succ]
                    refine rgTake (i := 9) (d := 12) (v := ?_) rfl rfl (by kernel_rfl) (by kernel_rfl) (by kernel_rfl) (fun _ _ _ h => h) (by rfl) ?_ (by assumption) ?_
                    rotate_left
                    · ((intro w hSw); (try dsimp only at hSw); go_simp; (try with_reducible rfl))
                    try simp only [Act.put, List.setIfInBounds_toArray, List.set_cons_zero, List.set_cons_succ]
                    refine wpAnyH_done (by kernel_rfl) ?_ _
                    clear p5
                    have Oy := hHeld.2.1
                    have Ky := hHeld.1
                    have Gy := Gz.trans (hHeld.2.2.mono Gz.size)
                    have owny := own_below ownz hHeld.2.2
                    have c6 := (Oy.cell z).trans EN.out
                    have c7 := (Oy.cell q).trans EQ.out
                    have f7 := Oy.frozen q
                    have ltg : w.heap.size < (w.heap.size + 1) := by omega
                    cases hf : fires m q L2 z
                    · have HR : Hid (relax m q L2 z = L2) := by show _ = _; unfold relax; rw [if_neg (by rw [hf]; simp)]
                      have HG := HF.out
                      rw [hf] at HG
                      cases qa : decide (enc (at_ L2 z) < 1073741824)
                      · clear hf HG c5 hHeld Oz Kz ownz Gz
                        go_wp2_with fail
                        go_roundw
                        case rel => exact ⟨e + 1, a2, L2, by omega, by go_num, rfl, (show L2 = _ by rw [HS.out, ← HE2.out, HR.out]), HT2, HV2, Oy, Ky, owny, Gy⟩
                        case measure => simp [intOf]; omega
                      · cases qb : decide (enc (at_ L2 z) + stepV m q z < enc (at_ L2 q))
                        · clear hf HG c5 hHeld Oz Kz ownz Gz
                          go_wp2_with fail
                          go_roundw
                          case rel => exact ⟨e + 1, a2, L2, by omega, by go_num, rfl, (show L2 = _ by rw [HS.out, ← HE2.out, HR.out]), HT2, HV2, Oy, Ky, owny, Gy⟩
                          case measure => simp [intOf]; omega
                        · rw [qa, qb] at HG; cases HG
                    · have HG := HF.out
                      rw [hf] at HG
                      rw [Bool.and_eq_true] at HG
                      obtain ⟨qa, qb⟩ := HG
                      have hz1 : 0 ≤ at_ L2 z := by
                        unfold fires at hf
                        simp only [Bool.and_eq_true, decide_eq_true_eq] at hf
                        exact hf.1
                      have HR : Hid (relax m q L2 z = L2.set q (at_ L2 z + stepV m q z)) := by show _ = _; unfold relax; rw [if_pos hf]
                      have HT3 := Lib.hid (HT2.out.step V HV2.out kq HM2.out hf)
                      have HV3 := Lib.hid (relax_inv V HV2.out kq HM2.out).1
                      have e8 : enc (at_ L2 z) = at_ L2 z := by unfold enc; rw [if_neg (by omega)]
                      have O8 := Oy.set_ q (.int .i64 (enc (at_ L2 z) + stepV m q z))
                      rw [ints_set, e8, ← encL_set _ _ _ (by omega), ← HR.out, ← e8] at O8
                      have K8 := Ky.far (p := ⟨w.heap.size + 1, q, none⟩) (by simp) (.int .i64 (enc (at_ L2 z) + stepV m q z))
                      have G8 := Below.setCell (p := ⟨w.heap.size + 1, q, none⟩) Gy (by simp) (.int .i64 (enc (at_ L2 z) + stepV m q z))
                      have own8 := own_ch owny (Ch.set (g := w.heap.size + 1) (i := q) (u := .int .i64 (enc (at_ L2 z) + stepV m q z)) _) (fun bk hbk => by have := HB5.out bk hbk; omega)
                      clear hf e8 hz1 c5 hHeld Oz Kz ownz Gz Oy Ky Gy owny
                      go_wp2_with fail
                      go_roundw
                      case rel => exact ⟨e + 1, true, relax m q L2 z, by omega, by go_num, rfl, (show relax m q L2 z = _ by rw [HS.out, ← HE2.out]), HT3, HV3, O8, K8, own8, G8⟩
                      case measure => simp [intOf]; omega
                  · have hee : e = nx.length := by omega
                    subst hee
                    have HR : Hid (row m L q = L2) := by
                      show _ = _
                      unfold row
                      rw [if_pos hpos.out, ← HX.out, HE2.out, List.take_of_length_le (Nat.le_refl _)]
                    go_wp2_with fail
                    go_roundw
                    case rel => exact ⟨q + 1, a2, L2, by omega, by go_num, rfl, (show L2 = _ by rw [fold_succ, ← HE.out, HR.out]), HT2, HV2, Oz, Kz, Gz⟩
                    case measure => simp [intOf]; omega
            · have hqe : q = j := by omega
              subst hqe
              have HR : Hid (itL m b (r + 1) = L) := by show _ = _; rw [HN.out, ← HL0.out, scan, HL.out, HE.out]
              have hd := HH.out.next (a := a') (by rw [HR.out, ← HL0.out]; exact HT.out)
              have m1 := mW_blk Ox
              rw [wz_encL (HV.out.all V)] at m1
              have m2 := HM.out
              rw [wz_encL (I0.out.all V), ← HL0.out] at m2
              have ht := HT.out
              have hd2 := Lib.hid hd
              have hm2 := Lib.hid m2
              have m3 : mW wr (w.heap.size + 1) + boolN (.bool a') < W L0 + boolN (.bool true) := by
                rw [m1]
                rcases ht with ⟨rfl, rfl⟩ | ⟨rfl, ht⟩
                · simp [boolN]
                · show W L + 1 < W L0 + 1; omega
              replace m3 := Lib.hid m3
              clear hd m1 m2 ht
              go_wp2_with fail
              go_roundw
              case rel => exact ⟨r + 1, a', rfl, hd2, by rw [HR.out]; exact Ox, Kx, Gx⟩
              case measure => rw [hm2.out]; exact m3.out
end Go.Proofs.Ytijmlagehdmfeaa
