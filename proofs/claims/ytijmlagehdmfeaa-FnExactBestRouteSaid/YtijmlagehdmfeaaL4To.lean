/- Contracts: the least times of all cells to one, by the reference. -/
import Derived.Test.YtijmlagehdmfeaaTimesTo
import Derived.Test.YtijmlagehdmfeaaL2Next
namespace Go.Proofs.Ytijmlagehdmfeaa
set_option linter.unusedVariables false
set_option linter.unusedSimpArgs false
open Go.RowKit
theorem ints_app_get {L : List Int} {ex : List Value} {i : Nat} (hi : i < L.length) : (ints L ++ ex)[i]? = some (.int .i64 (at_ L i)) := by
  rw [List.getElem?_append_left (by simpa [ints] using hi), at_get hi]; simp [ints, hi]
theorem ints_app_set {L : List Int} {ex : List Value} {i : Nat} (t : Int) (hi : i < L.length) : (ints L ++ ex).set i (.int .i64 t) = ints (L.set i t) ++ ex := by
  rw [List.set_append_left _ _ (by simpa [ints] using hi), ints_set]
theorem wz_id {x : Int} (h : x ≤ 1440) : wz (.int .i64 x) = wt x := by
  unfold wz wt
  dsimp only
  by_cases e : x < 0
  · rw [if_pos e, if_pos (by omega)]
  · rw [if_neg e, if_neg (by omega)]
theorem wz_ints {L : List Int} (h : ∀ x ∈ L, x ≤ 1440) : ((ints L).map wz).sum = W L := by
  unfold W sumF ints
  induction L with
  | nil => rfl
  | cons x L ih =>
    simp only [List.map_cons, List.sum_cons, List.map_map] at ih ⊢
    rw [wz_id (h x (by simp)), ih (fun y hy => h y (by simp [hy]))]
theorem own_form2 {w : World} {base g cp n : Nat} {e : TypeId} {A : Option Addr} {xs : List Value} (h : w.ownsRow base e 1 (.slice A n cp) n xs) (hn : 0 < n) : ∃ g ex, A = some ⟨g, 0, none⟩ ∧ Blk w g e (xs ++ ex) ∧ base ≤ g := by
  have hl := h.1
  rcases h.2 with ⟨_, rfl⟩ | ⟨g, cap, cur, hv, hb, hg, _, _, hcs, ht⟩
  · omega
  · simp only [Value.slice.injEq, true_and] at hv
    refine ⟨g, cur.toList.drop (n * 1), hv.1, ?_, hb⟩
    unfold Blk
    rw [hg, ← ht, List.take_append_drop]
theorem l2Next_n {m : Mp} {v : Value} {c : Nat} {w : World} (hv : MapIn w m v) (V : Valid m) (hc2 : c < m.co.length) :
    Calls Try.prog 68 #[v, .int .i64 (c : Int)] w fun e w' => ∃ A cp, e = .returned (.slice A (nextN m c).length cp) ∧ w'.ownsRow w.heap.size 3 1 (.slice A (nextN m c).length cp) (nextN m c).length (ints (cast (nextN m c))) ∧ Below w.heap.size w w' := by
  have e1 : nextI m (c : Int) = cast (nextN m c) := by simp [nextI]
  have e2 : (nextI m (c : Int)).length = (nextN m c).length := by rw [e1, cast_len]
  have := l2Next_any hv V (c := (c : Int)) (by omega) (by omega)
  rw [e2, e1] at this
  exact this
set_option maxRecDepth 100000 in
set_option maxHeartbeats 2000000 in
theorem l4To_any {m : Mp} {v : Value} {b : Nat} {w : World} (hv : MapIn w m v) (V : Valid m) (hb : b < m.co.length) :
    Calls Try.prog 82 #[v, .int .i64 (b : Int)] w fun e w' => ∃ g cq ex, e = .returned (.slice (some ⟨g, 0, none⟩) m.co.length cq) ∧ Blk w' g 3 (ints (fin m b) ++ ex) ∧ w.heap.size ≤ g ∧ Below w.heap.size w w' := by
  have hv' := hv
  obtain ⟨A, n, cp, B, k, d, rfl, h1, h2, h3, h4⟩ := hv
  obtain ⟨i0, hi0, hz0, hz1, hz2⟩ := info_parts int_info
  have hkl := h2.len
  have hk36 : k ≤ 36 := by have := V.n36; omega
  have hbk : b < k := by omega
  obtain ⟨y, oy, rfl, hyb, hyc⟩ := h2.int (show 0 < k by omega)
  have HL := Lib.hid hkl
  have HB := Lib.hid hb
  rw [hkl]
  clear hkl hb
  go_enter Try.func82, Try.ntmps82
  go_wp2_with fail
  go_loopw [5, 6] (fun o i wr => ∃ j : Nat, j ≤ k ∧ i = .int .i64 j ∧ wr.ownsRow (w.heap.size + 1) 3 1 o j (ints (List.replicate j (-1))) ∧ Blk wr w.heap.size 28 [.int .i64 m.wd, .int .i64 m.ht, .slice A n cp, .slice (some ⟨y, oy, none⟩) k d] ∧ Below w.heap.size w wr) (fun _ i _ => k - (intOf i).toNat)
  case atStart =>
    refine ⟨0, Nat.zero_le _, rfl, ?_, ?_, (by repeat (first | exact Below.refl _ _ | refine below_drewN ?_ _ | refine Below.drew ?_ | refine Below.alloc ?_ (by first | omega | (simp; done) | (simp; omega)) _ | refine Below.setCell ?_ (by first | omega | (simp; done) | (simp; omega)) _))⟩
    · have := World.ownsRow_lit (base := w.heap.size + 1) (size := 1) (e := 3) (w.alloc (.cells #[.int .i64 m.wd, .int .i64 m.ht, .slice A n cp, .slice (some ⟨y, oy, none⟩) k d] 28)) #[] 0 (by simp) (by simp) rfl
      simpa [ints] using this
    · exact (Blk.new w 28 [.int .i64 m.wd, .int .i64 m.ht, .slice A n cp, .slice (some ⟨y, oy, none⟩) k d]).alloc _
  case round =>
    obtain ⟨j, hj, rfl, hown, K, hbel⟩ := hrel
    obtain ⟨k0, k1, k2, k3⟩ := blk4 K
    obtain ⟨A6, c6, rfl⟩ := own_form hown
    by_cases hlt : j < k
    · have hk1 := K.lt
      have e0 : (List.replicate j (-1 : Int)).length = j := by simp
      have hown1 := hown
      have hbelx := hbel
      clear hown hbel
      go_wp2_with (at_builtin; refine wpList_append_own _ rfl _ _ 22 rfl (w.heap.size + 1) 3 i0 (.int .i64 0) 1 8 Try.underlying22 hi0 hz0 hz1 hz2 rfl (by decide) _ _ _ rfl (hown1.alloc _) ⟨wr.heap.size, 0, none⟩ 1 1 [.int .i64 (-1)] rfl rfl ?c1 ?c2 ?c3 ?c4 ?c5 ?_)
      case c1 => exact cell_one_new (wr) _ _
      case c2 => intro u hu; simp at hu; subst hu; rfl
      case c3 => simp only [maxLen]; omega
      case c4 => omega
      case c5 => simp; omega
      intro v2 w2 own1 grow1 _
      have bel1 : Below w.heap.size w w2 := (Below.alloc (hbelx) (by have := (hbelx).size; omega) _).grown grow1 (by have := (hbelx).size; simp; omega) (fun j hj => by have := (hown1.lt j hj).1; omega)
      have e1 : ints (List.replicate j (-1)) ++ [Value.int .i64 (-1)] = ints (List.replicate j (-1) ++ [-1]) := by simp [ints]
      rw [e1] at own1
      clear e1
      have K2 := K.alloc (.cells #[.int .i64 (-1)] 3) |>.grown grow1 (by
        intro h; have := (hown1.lt _ h.symm).1; omega)
      rw [show List.replicate j (-1 : Int) ++ [-1] = List.replicate (j + 1) (-1) by rw [List.replicate_succ']] at own1
      clear hown1 K grow1 hbelx e0 k0 k1 k2 k3
      go_wp2_with fail
      go_roundw
      case rel => exact ⟨j + 1, by omega, by go_num, own1, K2, bel1⟩
      case measure => simp [intOf]; omega
    · have hjk : j = k := by omega
      subst hjk
      obtain ⟨g, ex, rfl, O, hg⟩ := own_form2 (g := 0) hown (by omega)
      have c1 : wr.cell? ⟨g, b, none⟩ = some (.int .i64 (-1)) := by
        rw [O.cell, ints_app_get (by simpa using hbk)]; simp [at_, List.getD, hbk]
      have f1 := O.frozen b
      go_wp2_with fail
      have O1 := O.set_ b (.int .i64 0)
      rw [ints_app_set _ (by simpa using hbk)] at O1
      have HI : Hid ((List.replicate j (-1 : Int)).set b 0 = initL m b) := by show _ = _; unfold initL; rw [HL.out]
      rw [HI.out] at O1
      have K1 := K.far (p := ⟨g, b, none⟩) (by simp; omega) (.int .i64 0)
      have G1 := Below.setCell (p := ⟨g, b, none⟩) hbel (by simp; omega) (.int .i64 0)
      clear hown O K hbel c1 f1 k0 k1 k2 k3
      have HL2 : Hid (m.co.length = j) := HL
      have hk1 : 1 ≤ j := by omega
      go_loopw [7] (fun ag wr => ∃ (r : Nat) (a : Bool), ag = .bool a ∧ Hid (Head m b r a) ∧ Blk wr g 3 (ints (itL m b r) ++ ex) ∧ Blk wr w.heap.size 28 [.int .i64 m.wd, .int .i64 m.ht, .slice A n cp, .slice (some ⟨y, oy, none⟩) j d] ∧ Below w.heap.size w wr) (fun ag wr => mW wr g + boolN ag)
      case atStart => exact ⟨0, true, rfl, Or.inl ⟨rfl, by show 0 + W (initL m b) ≤ _; omega⟩, O1, K1, G1⟩
      case round =>
        obtain ⟨r, a, rfl, HH, O, K, G⟩ := hrel
        cases a
        · go_wp2_with fail
          go_ret
          exact ⟨g, _, ex, rfl, by rw [← HH.out.out]; exact O, by omega, G⟩
        · have I0 := Lib.hid (it_inv V HB.out r)
          have HN : Hid (itL m b (r + 1) = scan m (itL m b r)) := rfl
          have HM := Lib.hid (mW_blk O)
          go_wp2_with fail
          obtain ⟨L0, hL0⟩ : ∃ L, L = itL m b r := ⟨_, rfl⟩
          have HL0 := Lib.hid hL0
          rw [← hL0] at O
          clear hL0
          go_loopw [7, 8] (fun ag i wx => ∃ (q : Nat) (a' : Bool) (L : List Int), q ≤ j ∧ i = .int .i64 q ∧ ag = .bool a' ∧ Hid (L = (List.range q).foldl (row m) L0) ∧ Hid (Turned L0 L a') ∧ Hid (Inv m b L) ∧ Blk wx g 3 (ints L ++ ex) ∧ Blk wx w.heap.size 28 [.int .i64 m.wd, .int .i64 m.ht, .slice A n cp, .slice (some ⟨y, oy, none⟩) j d] ∧ Below w.heap.size w wx) (fun _ i _ => j - (intOf i).toNat)
          case atStart => exact ⟨0, false, L0, Nat.zero_le _, rfl, rfl, rfl, Or.inl ⟨rfl, rfl⟩, by show Inv m b L0; rw [HL0.out]; exact I0.out, O, K, G⟩
          case round =>
            obtain ⟨q, a', L, hq, rfl, rfl, HE, HT, HV, Ox, Kx, Gx⟩ := hrel
            by_cases hqj : q < j
            · have kq : q < m.co.length := by rw [HL.out]; exact hqj
              have c1 := ((bcell Gx).1 y (oy + q) hyb).trans (hyc q kq)
              rw [← coA_nat] at c1
              obtain ⟨k0, k1, k2, k3⟩ := blk4 Kx
              by_cases hz : coA m q = 0
              · have hz0 : (coA m q == 0) = true := by simp [hz]
                have HR : Hid (row m L q = L) := by show _ = _; unfold row; rw [if_neg (by omega)]
                clear hz
                go_wp2_with fail
                go_roundw
                case rel => exact ⟨q + 1, a', L, by omega, by go_num, rfl, (show L = _ by rw [fold_succ, ← HE.out, HR.out]), HT, HV, Ox, Kx, Gx⟩
                case measure => simp [intOf]; omega
              · have hz0 : (coA m q == 0) = false := by simp [hz]
                have hpos := Lib.hid (show 0 < coA m q by have := V.co_bd q; omega)
                clear hz
                go_wp2_with fail
                refine (l2Next_n (m := m) (hv'.on Gx) V kq).mono ?_
                rintro e w5 ⟨A5, cp5, rfl, own5, hb5⟩
                have O5 := Ox.on hb5
                have K5 := Kx.on hb5
                have G5 := Gx.trans (hb5.mono Gx.size)
                have l5 := nextN_len V q
                have ltO := Ox.lt
                have B5 : ∀ bk, Value.ownBlock (.slice A5 (nextN m q).length cp5) = some bk → g < bk := fun bk hbk => by have := (own5.lt bk hbk).1; omega
                have HB5 := Lib.hid B5
                clear B5 k0 k1 k2 k3 hb5
                obtain ⟨nx, hnx⟩ : ∃ l, l = nextN m q := ⟨_, rfl⟩
                have HX := Lib.hid hnx
                rw [← hnx] at own5 l5 HB5
                go_wp2_with fail
                rw [← hnx]
                clear hnx
                go_loopw [7, 10] (fun ag i wz => ∃ (e : Nat) (a2 : Bool) (L2 : List Int), e ≤ nx.length ∧ i = .int .i64 e ∧ ag = .bool a2 ∧ Hid (L2 = (nx.take e).foldl (relax m q) L) ∧ Hid (Turned L0 L2 a2) ∧ Hid (Inv m b L2) ∧ Blk wz g 3 (ints L2 ++ ex) ∧ Blk wz w.heap.size 28 [.int .i64 m.wd, .int .i64 m.ht, .slice A n cp, .slice (some ⟨y, oy, none⟩) j d] ∧ wz.ownsRow wr.heap.size 3 1 (.slice A5 nx.length cp5) nx.length (ints (cast nx)) ∧ Below w.heap.size w wz) (fun _ i _ => nx.length - (intOf i).toNat)
                case atStart => exact ⟨0, a', L, Nat.zero_le _, rfl, rfl, rfl, HT, HV, O5, K5, own5, G5⟩
                case round =>
                  obtain ⟨e, a2, L2, he, rfl, rfl, HE2, HT2, HV2, Oz, Kz, ownz, Gz⟩ := hrel
                  by_cases hen : e < nx.length
                  · obtain ⟨x5, o5, rfl, _, hx5⟩ := (Rd.of_own ownz).int hen
                    have ec : e < (cast nx).length := by rw [cast_len]; exact hen
                    have c5 := hx5 e ec
                    rw [show (cast nx)[e] = ((nx[e] : Nat) : Int) by simp [cast]] at c5
                    have hmem : nx[e] ∈ nextN m q := by rw [← HX.out]; exact List.getElem_mem hen
                    have hnk : nx[e] < j := by have := (mem_nextN.1 hmem).1; have := HL2.out; omega
                    have hlen := HV2.out.len
                    have hnl : nx[e] < L2.length := by have := HL2.out; omega
                    have hql : q < L2.length := by have := HL2.out; omega
                    have HS := Lib.hid (fold_take m q L nx e hen)
                    have sb := V.step_bd q nx[e]
                    have ub : at_ L2 nx[e] ≤ 1440 := by
                      have := HV2.out.all V _ (List.getElem_mem hnl)
                      rwa [← at_get hnl] at this
                    have lb := HV2.out.lo nx[e] hnl
                    have EN := Lib.hid (ints_app_get (ex := ex) hnl)
                    have EQ := Lib.hid (ints_app_get (ex := ex) hql)
                    have HQL := Lib.hid hql
                    have HM2 := Lib.hid hmem
                    have c6 := (Oz.cell nx[e]).trans EN.out
                    clear hx5 hmem hlen hnl hql ec
                    generalize nx[e] = z at *
                    cases q0 : decide (at_ L2 z < 0)
                    · have p5 : IntKind.i64.wrap (at_ L2 z + stepV m q z) = at_ L2 z + stepV m q z := IntWalk.i64_in _ (by omega)
                      go_wp2_with fail
                      refine wp_region_held_drew (S := fun w' => Blk w' w.heap.size 28 [.int .i64 m.wd, .int .i64 m.ht, .slice A n cp, .slice (some ⟨y, oy, none⟩) j d] ∧ Blk w' g 3 (ints L2 ++ ex) ∧ Below wr.heap.size wr w') (by kernel_rfl) ?_ (fun hHeld => ?_)
                      · (try dsimp only)
                        first | exact ⟨Kz.drew, Oz.drew, (Below.refl _ _).drew⟩ | exact ⟨hHeld.1.on hb6, hHeld.2.1.on hb6, hHeld.2.2.trans (hb6.mono hHeld.2.2.size)⟩
                      refine rgTake (i := 0) (d := 58) (v := ?_) rfl rfl (by kernel_rfl) (by kernel_rfl) (by kernel_rfl) (fun _ _ _ h => h) (by rfl) ?_ (by assumption) ?_
                      rotate_left
                      · ((intro w hSw); (try dsimp only at hSw); go_simp; (try with_reducible rfl))
                      try simp only [Act.put, List.setIfInBounds_toArray, List.set_cons_zero, List.set_cons_succ]
                      refine rgTake (i := 1) (d := 59) (v := ?_) rfl rfl (by kernel_rfl) (by kernel_rfl) (by kernel_rfl) (fun _ _ _ h => h) (by rfl) ?_ (by assumption) ?_
                      rotate_left
                      · ((intro w hSw); (try dsimp only at hSw); go_simp; (try with_reducible rfl))
                      try simp only [Act.put, List.setIfInBounds_toArray, List.set_cons_zero, List.set_cons_succ]
                      refine rgTake (i := 2) (d := 60) (v := ?_) rfl rfl (by kernel_rfl) (by kernel_rfl) (by kernel_rfl) (fun _ _ _ h => h) (by rfl) ?_ (by assumption) ?_
                      rotate_left
                      · ((intro w hSw); (try dsimp only at hSw); go_simp; (try with_reducible rfl))
                      try simp only [Act.put, List.setIfInBounds_toArray, List.set_cons_zero, List.set_cons_succ]
                      refine rgTake (i := 3) (d := 61) (v := ?_) rfl rfl (by kernel_rfl) (by kernel_rfl) (by kernel_rfl) (fun _ _ _ h => h) (by rfl) ?_ (by assumption) ?_
                      rotate_left
                      · ((intro w hSw); (try dsimp only at hSw); (obtain ⟨z0, z1, z2, z3⟩ := blk4 hSw.1; have zc := (hSw.2.1.cell z).trans EN.out); go_simp; (try with_reducible rfl))
                      try simp only [Act.put, List.setIfInBounds_toArray, List.set_cons_zero, List.set_cons_succ]
                      refine rgTake (i := 4) (d := 62) (v := ?_) rfl rfl (by kernel_rfl) (by kernel_rfl) (by kernel_rfl) (fun _ _ _ h => h) (by rfl) ?_ (by assumption) ?_
                      rotate_left
                      · ((intro w hSw); (try dsimp only at hSw); (obtain ⟨z0, z1, z2, z3⟩ := blk4 hSw.1; have zc := (hSw.2.1.cell z).trans EN.out); go_simp; (try with_reducible rfl))
                      try simp only [Act.put, List.setIfInBounds_toArray, List.set_cons_zero, List.set_cons_succ]
                      refine rgTake (i := 5) (d := 63) (v := ?_) rfl rfl (by kernel_rfl) (by kernel_rfl) (by kernel_rfl) (fun _ _ _ h => h) (by rfl) ?_ (by assumption) ?_
                      rotate_left
                      · ((intro w hSw); (try dsimp only at hSw); go_simp; (try with_reducible rfl))
                      try simp only [Act.put, List.setIfInBounds_toArray, List.set_cons_zero, List.set_cons_succ]
                      refine rgTake (i := 6) (d := 64) (v := ?_) rfl rfl (by kernel_rfl) (by kernel_rfl) (by kernel_rfl) (fun _ _ _ h => h) (by rfl) ?_ (by assumption) ?_
                      rotate_left
                      · ((intro w hSw); (try dsimp only at hSw); go_simp; (try with_reducible rfl))
                      try simp only [Act.put, List.setIfInBounds_toArray, List.set_cons_zero, List.set_cons_succ]
                      refine wpAnyH_ready (rs := [7]) (by kernel_rfl) (by simp) ?_
                      refine AllReadyH.cons rfl (fun K hK => ?_) AllReadyH.nil
                      go_simp
                      refine (l2Step_any (m := m) (hv'.on (Gz.trans (hHeld.2.2.mono Gz.size))) V (by omega) (by have := HL2.out; omega) (by omega) (by have := HL2.out; omega)).mono ?_; rintro e wy ⟨rfl, hb6⟩
                      go_wp2_with fail
                      refine hK.out _ _ ?_ (fun hHeld => ?_)
                      · (try dsimp only)
                        first | exact ⟨Kz.drew, Oz.drew, (Below.refl _ _).drew⟩ | exact ⟨hHeld.1.on hb6, hHeld.2.1.on hb6, hHeld.2.2.trans (hb6.mono hHeld.2.2.size)⟩
                      clear hK K
                      try simp only [Act.put, List.setIfInBounds_toArray, List.set_cons_zero, List.set_cons_succ]
                      refine rgTake (i := 8) (d := 66) (v := ?_) rfl rfl (by kernel_rfl) (by kernel_rfl) (by kernel_rfl) (fun _ _ _ h => h) (by rfl) ?_ (by assumption) ?_
                      rotate_left
                      · ((intro w hSw); (try dsimp only at hSw); go_simp; (try with_reducible rfl))
                      try simp only [Act.put, List.setIfInBounds_toArray, List.set_cons_zero, List.set_cons_succ]
                      refine rgTake (i := 9) (d := 12) (v := ?_) rfl rfl (by kernel_rfl) (by kernel_rfl) (by kernel_rfl) (fun _ _ _ h => h) (by rfl) ?_ (by assumption) ?_
                      rotate_left
                      · ((intro w hSw); (try dsimp only at hSw); go_simp; (try with_reducible rfl))
                      try simp only [Act.put, List.setIfInBounds_toArray, List.set_cons_zero, List.set_cons_succ]
                      refine wpAnyH_done (by kernel_rfl) ?_ _
                      clear p5 c6
                      have Oy := hHeld.2.1
                      have Ky := hHeld.1
                      have Gy := Gz.trans (hHeld.2.2.mono Gz.size)
                      have owny := own_below ownz hHeld.2.2
                      have c7 := (Oy.cell q).trans EQ.out
                      have f7 := Oy.frozen q
                      cases hf : fires m q L2 z
                      · have HR : Hid (relax m q L2 z = L2) := by show _ = _; unfold relax; rw [if_neg (by rw [hf]; simp)]
                        obtain ⟨qa, qb⟩ : decide (at_ L2 q < 0) = false ∧ decide (at_ L2 z + stepV m q z < at_ L2 q) = false := by
                          unfold fires at hf
                          have h0 : decide (0 ≤ at_ L2 z) = true := by
                            simp only [decide_eq_false_iff_not, decide_eq_true_eq] at q0 ⊢; omega
                          rw [h0, Bool.true_and, Bool.or_eq_false_iff] at hf
                          exact hf
                        clear hf c5 hHeld Oz Kz ownz Gz q0
                        go_wp2_with fail
                        go_roundw
                        case rel => exact ⟨e + 1, a2, L2, by omega, by go_num, rfl, (show L2 = _ by rw [HS.out, ← HE2.out, HR.out]), HT2, HV2, Oy, Ky, owny, Gy⟩
                        case measure => simp [intOf]; omega
                      · have hf2 := hf
                        unfold fires at hf2
                        rw [Bool.and_eq_true] at hf2
                        have hf3 := hf2.2
                        have hz1 : 0 ≤ at_ L2 z := by simpa using hf2.1
                        clear hf2
                        have HR : Hid (relax m q L2 z = L2.set q (at_ L2 z + stepV m q z)) := by show _ = _; unfold relax; rw [if_pos hf]
                        have HT3 := Lib.hid (HT2.out.step V HV2.out kq HM2.out hf)
                        have HV3 := Lib.hid (relax_inv V HV2.out kq HM2.out).1
                        have O8 := Oy.set_ q (.int .i64 (at_ L2 z + stepV m q z))
                        rw [ints_app_set _ HQL.out, ← HR.out] at O8
                        have K8 := Ky.far (p := ⟨g, q, none⟩) (by simp; omega) (.int .i64 (at_ L2 z + stepV m q z))
                        have G8 := Below.setCell (p := ⟨g, q, none⟩) Gy (by simp; omega) (.int .i64 (at_ L2 z + stepV m q z))
                        have own8 := own_ch owny (Ch.set (g := g) (i := q) (u := .int .i64 (at_ L2 z + stepV m q z)) _) (fun bk hbk => by have := HB5.out bk hbk; omega)
                        clear hf hz1 c5 hHeld Oz Kz ownz Gz Oy Ky Gy owny q0
                        cases qa : decide (at_ L2 q < 0)
                        · rw [qa, Bool.false_or] at hf3
                          go_wp2_with fail
                          go_roundw
                          case rel => exact ⟨e + 1, true, relax m q L2 z, by omega, by go_num, rfl, (show relax m q L2 z = _ by rw [HS.out, ← HE2.out]), HT3, HV3, O8, K8, own8, G8⟩
                          case measure => simp [intOf]; omega
                        · clear hf3
                          go_wp2_with fail
                          go_roundw
                          case rel => exact ⟨e + 1, true, relax m q L2 z, by omega, by go_num, rfl, (show relax m q L2 z = _ by rw [HS.out, ← HE2.out]), HT3, HV3, O8, K8, own8, G8⟩
                          case measure => simp [intOf]; omega
                    · have HR : Hid (relax m q L2 z = L2) := by
                        show _ = _
                        unfold relax fires
                        rw [if_neg]
                        simp only [decide_eq_true_eq] at q0
                        simp only [Bool.and_eq_true, decide_eq_true_eq, not_and]
                        omega
                      have q1 : at_ L2 z < 0 := by simpa using q0
                      clear q0
                      go_wp2_with fail
                      go_roundw
                      case rel => exact ⟨e + 1, a2, L2, by omega, by go_num, rfl, (show L2 = _ by rw [HS.out, ← HE2.out, HR.out]), HT2, HV2, Oz, Kz, ownz, Gz⟩
                      case measure => simp [intOf]; omega
                  · have hee : e = nx.length := by omega
                    subst hee
                    have HR : Hid (row m L q = L2) := by
                      show _ = _
                      unfold row
                      rw [if_pos hpos.out, ← HX.out, HE2.out, List.take_of_length_le (Nat.le_refl _)]
                    go_wp2_with fail
                    go_roundw
                    case rel => exact ⟨q + 1, a2, L2, by omega, by go_num, rfl, (show L2 = _ by rw [fold_succ, ← HE.out, HR.out]), HT2, HV2, Oz, Kz, Gz⟩
                    case measure => simp [intOf]; omega
            · have hqe : q = j := by omega
              subst hqe
              have HR : Hid (itL m b (r + 1) = L) := by show _ = _; rw [HN.out, ← HL0.out, scan, HL.out, HE.out]
              have hd := HH.out.next (a := a') (by rw [HR.out, ← HL0.out]; exact HT.out)
              have m1 := mW_blk Ox
              rw [List.map_append, List.sum_append, wz_ints (HV.out.all V)] at m1
              have m2 := HM.out
              rw [List.map_append, List.sum_append, wz_ints (I0.out.all V), ← HL0.out] at m2
              have ht := HT.out
              have hd2 := Lib.hid hd
              have hm2 := Lib.hid m2
              have m3 : mW wr g + boolN (.bool a') < W L0 + (ex.map wz).sum + boolN (.bool true) := by
                rw [m1]
                rcases ht with ⟨rfl, rfl⟩ | ⟨rfl, ht⟩
                · simp [boolN]
                · show W L + _ + 1 < W L0 + _ + 1; omega
              replace m3 := Lib.hid m3
              clear hd m1 m2 ht
              go_wp2_with fail
              go_roundw
              case rel => exact ⟨r + 1, a', rfl, hd2, by rw [HR.out]; exact Ox, Kx, Gx⟩
              case measure => rw [hm2.out]; exact m3.out
end Go.Proofs.Ytijmlagehdmfeaa
