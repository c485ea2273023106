/- Contract: OpenParts of the program. -/
import Derived.Test.YtdjdjceemfaigaaOpq
namespace Go.Proofs.Ytdjdjceemfaigaa
set_option linter.unusedVariables false
set_option linter.unusedSimpArgs false
open Go.RowKit
theorem perm_sorted (l : List Int) : (l.mergeSort fun x y => decide (x ≤ y)).Pairwise (· ≤ ·) :=
  (List.pairwise_mergeSort (le := fun x y : Int => decide (x ≤ y)) (fun a b c h1 h2 => by simp at h1 h2 ⊢; omega) (fun a b => by simp; omega) l).imp (fun h => by simpa using h)
theorem comp_sorted {m : Mp} {c : Nat} {L : List Nat} (hm : ∀ x, x ∈ L ↔ x ∈ compL m c) (hn : L.Nodup) : ((cast L).mergeSort fun x y => decide (x ≤ y)) = cast (compL m c) :=
  comp_sort hm hn (List.mergeSort_perm _ _) (perm_sorted _)
set_option maxRecDepth 100000 in
set_option maxHeartbeats 16000000 in
theorem OpenParts_impl {m : Mp} {v : Value} {w : World} (hv : MapIn w m v) :
    Calls Try.prog 7 #[v] w fun e w' => OpEnd w m e w' := by
  have HM : ∀ W : World, Below w.heap.size w W → _ := fun W hb => IsMap_m (hv.on hb)
  have HCN : Hid (∀ (W : World) (y : Nat), Below w.heap.size w W → Valid m → y < m.co.length → Calls Try.prog 18 #[v, .int .i64 (y : Int)] W fun e w' => ∃ A cp, e = .returned (.slice A (nextN m y).length cp) ∧ w'.ownsRow W.heap.size 3 1 (.slice A (nextN m y).length cp) (nextN m y).length (ints (cast (nextN m y))) ∧ Below W.heap.size W w') := (fun W y hb V hy => by
    have h := cellsNextTo_any (hv.on hb) V (c := (y : Int)) (by omega) (by omega)
    have e : nextI m (y : Int) = cast (nextN m y) := rfl
    rw [e, cast_len] at h
    exact h : ∀ (W : World) (y : Nat), _)
  obtain ⟨A, n, cp, B, k, d, rfl, h1, h2, h3, h4⟩ := hv
  have X := Blk.new w 29 [.int .i64 m.wd, .int .i64 m.ht, .slice A n cp, .slice B k d]
  have G : Below w.heap.size w (w.alloc (.cells #[.int .i64 m.wd, .int .i64 m.ht, .slice A n cp, .slice B k d] 29)) := (by repeat (first | exact Below.refl _ _ | refine below_drewN ?_ _ | refine Below.drew ?_ | refine Below.alloc ?_ (by first | omega | (simp; done) | (simp; omega)) _ | refine Below.setCell ?_ (by first | omega | (simp; done) | (simp; omega)) _))
  obtain ⟨x0, x1, x2, x3⟩ := blk4 X
  cases ok : okM m
  · rw [ok] at HM
    have HEND : Hid (okM m = false ∧ opL m = []) := (⟨ok, by unfold opL; rw [ok]; rfl⟩ : okM m = false ∧ opL m = [])
    clear ok HCN
    go_enter Try.func7, Try.ntmps7
    go_wp2_with fail
    refine (HM _ G).mono ?_
    rintro e w1 ⟨rfl, hb⟩
    replace G := G.trans (hb.mono G.size)
    clear hb x0 x1 x2 x3 X
    go_wp2_with fail
    go_ret2
    exact ⟨none, 0, [], by rw [HEND.out.1]; rfl, by rw [HEND.out.2]; rfl, Nest.nil_ (World.ownsRow_nil _ _ _ _), G⟩
  · have V := valid_iff.1 ok
    rw [ok] at HM
    have hkl := h2.len
    have n36 := V.n36
    have HEND : Hid (okM m = true ∧ opL m = partsT m k) := (⟨ok, by unfold opL; rw [if_pos ok, hkl]⟩ : okM m = true ∧ opL m = partsT m k)
    have HV := Lib.hid V
    have HKL := Lib.hid hkl
    have hk36 : k ≤ 36 := by omega
    obtain ⟨bl, off, rfl, hbb, hca⟩ := h2.2 (show 0 < k by omega)
    have HCA := Lib.hid hca
    obtain ⟨i0, hi0, hz0, hz1, hz2⟩ := info_parts nest_info
    obtain ⟨j0, hj0, hy0, hy1, hy2⟩ := info_parts int_info
    clear ok V hkl n36 hca h2
    go_enter Try.func7, Try.ntmps7
    go_wp2_with fail
    refine (HM _ G).mono ?_
    rintro e w1 ⟨rfl, hb⟩
    replace G := G.trans (hb.mono G.size)
    replace X := X.on hb
    clear hb x0 x1 x2 x3 HM
    obtain ⟨x0, x1, x2, x3⟩ := blk4 X
    have hmk := made_bools (k := k) (by omega) w1
    have hxl := X.lt
    have O0 : Hid (OSt w w1.heap.size k 0 0 (some ⟨w1.heap.size + 1, 0, none⟩) [] (List.replicate k false) [.int .i64 m.wd, .int .i64 m.ht, .slice A n cp, .slice (some ⟨bl, off, none⟩) k d] ((w1.alloc (.cells (bools (List.replicate k false)).toArray 4)).alloc (.cells #[] 22))) := by
      have e1 : (w1.alloc (.cells (bools (List.replicate k false)).toArray 4)).heap.size = w1.heap.size + 1 := World.size_alloc _ _
      have L1 := World.ownsRow_lit (base := w.heap.size + 1) (e := 22) (size := 1) (w1.alloc (.cells (bools (List.replicate k false)).toArray 4)) #[] 0 (by omega) (by decide) rfl
      rw [e1] at L1
      have S1 : (w1.alloc (.cells (bools (List.replicate k false)).toArray 4)).ownsRow (w.heap.size + 1) 4 1 (.slice (some ⟨w1.heap.size, 0, none⟩) k k) k (bools (List.replicate k false)) := (Blk.new w1 4 (bools (List.replicate k false))).own (size := 1) (n := k) (by omega) (by unfold bools; simp) (by simp only [maxLen]; omega)
      refine ⟨Nest.nil_ L1, S1.alloc _, (X.alloc _).alloc _, (G.alloc G.size _).alloc (by omega) _, (fun r hr => absurd hr List.not_mem_nil), fun e => by simp [Value.ownBlock] at e⟩
    have hgl : w.heap.size < w1.heap.size := hxl
    clear X G hxl
    go_wp2_with fail
    generalize hgs : w1.heap.size = gs at *
    have hgs0 : w.heap.size < gs := hgl
    clear hgl
    obtain ⟨bx, hbx⟩ : ∃ bx : List Value, [.int .i64 m.wd, .int .i64 m.ht, .slice A n cp, .slice (some ⟨bl, off, none⟩) k d] = bx := ⟨_, rfl⟩
    rw [hbx] at O0
    have HBX := Lib.hid hbx
    clear hbx hgs hmk x0 x1 x2 x3
    go_loopw [5, 23] (fun o i wr => ∃ (A1 : Option Addr) (c1 : Nat) (rs : List Rw) (S : List Bool) (j : Nat), o = .slice A1 rs.length c1 ∧ i = .int .i64 j ∧ j ≤ k ∧ rs.length ≤ j ∧ Hid (rs.map Rw.l = partsT m j) ∧ Hid (SeenOk m j k S []) ∧ Hid (OSt w gs k rs.length c1 A1 rs S bx wr)) (fun _ i _ => k - (intOf i).toNat)
    case atStart => exact ⟨_, 0, [], List.replicate k false, 0, rfl, rfl, Nat.zero_le _, Nat.le_refl _, rfl, SeenOk.zero m k, O0⟩
    clear O0
    case round =>
      obtain ⟨A1, c1, rs, S, j, rfl, rfl, hj, hrj, HL, HS, HO⟩ := hrel
      generalize hql : rs.length = ql at *
      have HQL := Lib.hid hql
      clear hql
      by_cases hlt : j < k
      · have hlti : (j : Int) < (k : Int) := by omega
        have hp1 : IntKind.i64.wrap ((j : Int) + 1) = (j : Int) + 1 := IntWalk.i64_in _ (by omega)
        have kx : j < m.co.length := by rw [HKL.out]; exact hlt
        have hcv := coA_nat m kx
        have cz : wr.cell? ⟨bl, off + j, none⟩ = some (.int .i64 (coA m (j : Int))) := by
          rw [hcv]
          exact ((bcell HO.out.bel).1 bl (off + j) hbb).trans (HCA.out j _ (ints_get kx))
        obtain ⟨bs, hbs, cs⟩ := HO.out.scell hlt HS.out.1
        have hzb := (HV.out.co_bd (j : Int)).1
        have HOP : Hid (0 < coA m (j : Int) → OpC m j) := (fun h => ⟨kx, h⟩ : 0 < coA m (j : Int) → OpC m j)
        have HNO : Hid (coA m (j : Int) = 0 → ¬ OpC m j) := (fun h h9 => by have := h9.2; omega : coA m (j : Int) = 0 → ¬ OpC m j)
        generalize coA m (j : Int) = z at *
        clear hcv
        by_cases hz : z = 0
        · subst hz
          clear hbs
          go_wp2_with fail
          go_roundw
          case rel => exact ⟨A1, c1, rs, S, j + 1, (by rw [HQL.out]), by go_num, by omega, (by rw [HQL.out]; omega), (by show _ = _; rw [partsT_no (not_head (HNO.out rfl))]; exact HL.out), HS.out.stay (.inl (HNO.out rfl)), (by rw [HQL.out]; exact HO)⟩
          case measure => simp [intOf]; omega
        · have hzI : (z == 0) = false := by simpa using hz
          have hop := HOP.out (by omega)
          have HO9 := Lib.hid hop
          clear hop HNO HOP
          cases bs
          · have HND : Hid (¬ Done m j j) := (fun h9 => (by have h8 := (HS.out.2 j hlt).2 (.inl h9); rw [hbs] at h8; exact absurd h8 (by decide)) : ¬ Done m j j)
            have B0 : Hid (BSt w gs k ql c1 A1 rs (S.set j true) bx wr.heap.size 1 [j] ((wr.setCell ⟨gs, j, none⟩ (.bool true)).alloc (.cells #[.int .i64 (j : Int)] 3))) := by
              have hl := HO.out.lts
              have hn := HO.out.nest.lt
              have O1 := (HO.out.mark j).1
              have es : (wr.setCell ⟨gs, j, none⟩ (.bool true)).heap.size = wr.heap.size := by simp
              have P1 := (Blk.new (wr.setCell ⟨gs, j, none⟩ (.bool true)) 3 (ints (cast [j]))).own (base := w.heap.size + 1) (size := 1) (n := 1) (by omega) rfl (by decide)
              rw [es] at P1
              exact ⟨O1.on (Below.alloc (Below.refl _ _) (Nat.le_refl _) _), P1, by omega, fun r hr e => by have := (hn.2 r hr).2; omega, fun e => by have := (hn.1 _ e).2; omega⟩
            have HS0 : Hid (SeenOk m j k (S.set j true) [j]) := (HS.out.mark hlt : SeenOk m j k (S.set j true) ([] ++ [j]))
            have HL0 : Hid (LstOk m j [j]) := (⟨by simp, List.mem_singleton.2 rfl, fun y hy => by rw [List.mem_singleton.1 hy]; exact Reach.self m j⟩ : LstOk m j [j])
            have HC0 : Hid (ClsOk m [j] 0) := (fun y hy => absurd hy (by simp) : ClsOk m [j] 0)
            have hgw := HO.out.lts.1
            have cs2 := (Below.cell (p := ⟨gs, j, none⟩) (Below.alloc (Below.refl wr.heap.size wr) (Nat.le_refl _) (.cells #[.int .i64 (j : Int)] 3)) hgw).trans cs
            have fz1 := HO.out.seen.frozenAt j
            have fz2 := ((HO.out.on (Below.alloc (Below.refl _ _) (Nat.le_refl _) (.cells #[.int .i64 (j : Int)] 3))).seen).frozenAt j
            clear HS hbs HO
            go_wp2_with fail
            go_loopw [8, 9] (fun p i wr => ∃ (gp cq : Nat) (L : List Nat) (S : List Bool) (a : Nat), p = .slice (some ⟨gp, 0, none⟩) L.length cq ∧ i = .int .i64 a ∧ a ≤ L.length ∧ Hid (LstOk m j L) ∧ Hid (ClsOk m L a) ∧ Hid (SeenOk m j k S L) ∧ Hid (BSt w gs k ql c1 A1 rs S bx gp cq L wr)) (fun _ i _ => 40 - (intOf i).toNat)
            case atStart => exact ⟨_, 1, [j], S.set j true, 0, rfl, rfl, Nat.zero_le _, HL0, HC0, HS0, B0⟩
            clear B0 HS0 HL0 HC0 cs2 fz1 fz2 cs cz hgw
            case round =>
              obtain ⟨gp, cq, L, S, a, rfl, rfl, ha, HLO, HCO, HSO, HB⟩ := hrel
              have hL := HLO.out.len HO9.out
              have hL36 : L.length ≤ 36 := by have := HKL.out; omega
              have hL1 := hL.1
              clear hL
              by_cases hal : a < L.length
              · obtain ⟨y, hy⟩ : ∃ y, L[a]? = some y := ⟨_, List.getElem?_eq_getElem hal⟩
                have HY := Lib.hid hy
                have hyL : y ∈ L := by obtain ⟨h9, e9⟩ := List.getElem?_eq_some_iff.1 hy; rw [← e9]; exact List.getElem_mem h9
                have HYR := Lib.hid (HLO.out.2.2 y hyL)
                have hyk : y < m.co.length := (HYR.out.good HO9.out).1
                have HYK := Lib.hid hyk
                have hy36 : y ≤ 36 := by have := HKL.out; omega
                clear hy hyL hyk
                have hCN := fun (W : World) (hb : Below w.heap.size w W) => HCN.out W y hb HV.out HYK.out
                have hnl36 := nextN_len HV.out y
                obtain ⟨nx, hnx⟩ : ∃ nx, nextN m y = nx := ⟨_, rfl⟩
                rw [hnx] at hCN hnl36
                have HNX := Lib.hid hnx
                have HCN9 := Lib.hid hCN
                clear hnx hCN
                generalize hnl : nx.length = nl at *
                have HNL := Lib.hid hnl
                clear hnl
                generalize hll : L.length = ll at *
                have HLL := Lib.hid hll
                clear hll
                have hali : (a : Int) < (ll : Int) := by omega
                have hp2 : IntKind.i64.wrap ((a : Int) + 1) = (a : Int) + 1 := IntWalk.i64_in _ (by omega)
                have HBX2 := HBX
                go_upto_region 13 with (fail)
                go_cut [52, 53, 54] (fun u1 u2 u3 wx => ∃ (A2 : Option Addr) (c2 : Nat), u1 = .slice A2 nl c2 ∧ u2 = .int .i64 nl ∧ u3 = .int .i64 0 ∧ BSt w gs k ql c1 A1 rs S bx gp cq L wx ∧ wx.ownsRow (w.heap.size + 1) 3 1 (.slice A2 nl c2) nl (ints (cast nx)) ∧ (∀ x, Value.ownBlock (.slice A2 nl c2) = some x → x ≠ gs ∧ x ≠ gp))
                case first =>
                  refine wp_region_held_drew (S := fun w' => BSt w gs k ql c1 A1 rs S bx gp cq L w') (by kernel_rfl) ?_ (fun hHeld => ?_)
                  · (try dsimp only)
                    exact HB.out.on (Below.drew (Below.refl _ _))
                  have B := HB.out.on (Below.drew (Below.refl _ _)); clear HB; generalize wr.drew = wx at *
                  refine rgTake (i := 0) (d := 47) (v := ?_) rfl rfl (by kernel_rfl) (by kernel_rfl) (by kernel_rfl) (fun _ _ _ h => h) (by rfl) ?_ (by assumption) ?_
                  rotate_left
                  · ((intro w hSw); (try dsimp only at hSw); (have hbx9 := hSw.o.box; rw [← HBX2.out] at hbx9; obtain ⟨l0, l1, l2, l3⟩ := blk4 hbx9; have z := hSw.pcell HY.out); go_simp; (try with_reducible rfl))
                  try simp only [Act.put, List.setIfInBounds_toArray, List.set_cons_zero, List.set_cons_succ]
                  refine rgTake (i := 1) (d := 48) (v := ?_) rfl rfl (by kernel_rfl) (by kernel_rfl) (by kernel_rfl) (fun _ _ _ h => h) (by rfl) ?_ (by assumption) ?_
                  rotate_left
                  · ((intro w hSw); (try dsimp only at hSw); go_simp; (try with_reducible rfl))
                  try simp only [Act.put, List.setIfInBounds_toArray, List.set_cons_zero, List.set_cons_succ]
                  refine rgTake (i := 2) (d := 49) (v := ?_) rfl rfl (by kernel_rfl) (by kernel_rfl) (by kernel_rfl) (fun _ _ _ h => h) (by rfl) ?_ (by assumption) ?_
                  rotate_left
                  · ((intro w hSw); (try dsimp only at hSw); go_simp; (try with_reducible rfl))
                  try simp only [Act.put, List.setIfInBounds_toArray, List.set_cons_zero, List.set_cons_succ]
                  refine rgTake (i := 3) (d := 50) (v := ?_) rfl rfl (by kernel_rfl) (by kernel_rfl) (by kernel_rfl) (fun _ _ _ h => h) (by rfl) ?_ (by assumption) ?_
                  rotate_left
                  · ((intro w hSw); (try dsimp only at hSw); go_simp; (try with_reducible rfl))
                  try simp only [Act.put, List.setIfInBounds_toArray, List.set_cons_zero, List.set_cons_succ]
                  refine rgTake (i := 4) (d := 51) (v := ?_) rfl rfl (by kernel_rfl) (by kernel_rfl) (by kernel_rfl) (fun _ _ _ h => h) (by rfl) ?_ (by assumption) ?_
                  rotate_left
                  · ((intro w hSw); (try dsimp only at hSw); (have hbx9 := hSw.o.box; rw [← HBX2.out] at hbx9; obtain ⟨l0, l1, l2, l3⟩ := blk4 hbx9; have z := hSw.pcell HY.out); go_simp; (try with_reducible rfl))
                  try simp only [Act.put, List.setIfInBounds_toArray, List.set_cons_zero, List.set_cons_succ]
                  refine rgTake (i := 7) (d := 54) (v := ?_) rfl rfl (by kernel_rfl) (by kernel_rfl) (by kernel_rfl) (fun _ _ _ h => h) (by rfl) ?_ (by assumption) ?_
                  rotate_left
                  · ((intro w hSw); (try dsimp only at hSw); go_simp; (try with_reducible rfl))
                  try simp only [Act.put, List.setIfInBounds_toArray, List.set_cons_zero, List.set_cons_succ]
                  refine wpAnyH_ready (rs := [5]) (by kernel_rfl) (by simp) ?_
                  refine AllReadyH.cons rfl (fun K hK => ?_) AllReadyH.nil
                  go_simp
                  refine (HCN9.out _ B.o.bel).mono ?_; rintro e wz ⟨A2, c2, rfl, P2, hb⟩
                  go_wp2_with fail
                  refine hK.out _ _ ?_ (fun hHeld => ?_)
                  · (try dsimp only)
                    exact B.on hb
                  clear hK K
                  try simp only [Act.put, List.setIfInBounds_toArray, List.set_cons_zero, List.set_cons_succ]
                  refine rgTake (i := 6) (d := 53) (v := ?_) rfl rfl (by kernel_rfl) (by kernel_rfl) (by kernel_rfl) (fun _ _ _ h => h) (by rfl) ?_ (by assumption) ?_
                  rotate_left
                  · ((intro w hSw); (try dsimp only at hSw); go_simp; (try with_reducible rfl))
                  try simp only [Act.put, List.setIfInBounds_toArray, List.set_cons_zero, List.set_cons_succ]
                  refine wpAnyH_done (by kernel_rfl) ?_ _
                  go_wp2_with fail
                  go_meet
                  exact ⟨A2, c2, rfl, rfl, rfl, B.on hb, own_le P2 (by have := B.o.lts; omega), fun x hx => by have h1 := (P2.lt x hx).1; have h2 := B.o.lts; have h3 := B.lts; omega⟩
                case rest =>
                obtain ⟨A2, c2, rfl, rfl, rfl, B, P, hnp⟩ := hcut
                have HB2 := Lib.hid B
                clear B HB
                go_wp2_with fail
                go_loopw [8, 54] (fun p i wr => ∃ (gp cq : Nat) (L : List Nat) (S : List Bool) (q : Nat), p = .slice (some ⟨gp, 0, none⟩) L.length cq ∧ i = .int .i64 q ∧ q ≤ nl ∧ a < L.length ∧ Hid (L[a]? = some y) ∧ Hid (LstOk m j L) ∧ Hid (ClsOk m L a) ∧ Hid (∀ (e : Nat) (he : e < nx.length), e < q → nx[e] ∈ L) ∧ Hid (SeenOk m j k S L) ∧ Hid (BSt w gs k ql c1 A1 rs S bx gp cq L wr) ∧ wr.ownsRow (w.heap.size + 1) 3 1 (.slice A2 nl c2) nl (ints (cast nx)) ∧ Hid (∀ x, Value.ownBlock (.slice A2 nl c2) = some x → x ≠ gs ∧ x ≠ gp)) (fun _ i _ => nl - (intOf i).toNat)
                case atStart => exact ⟨gp, cq, L, S, 0, (by rw [HLL.out]), rfl, Nat.zero_le _, (by rw [HLL.out]; exact hal), HY, HLO, HCO, (fun e _ h9 => absurd h9 (by omega)), HSO, HB2, P, hnp⟩
                clear HB2 P hnp HY HLO HCO HSO HLL HYR
                case round =>
                  obtain ⟨gp, cq, L, S, q, rfl, rfl, hq, haL, HY, HLO, HCO, HQ, HSO, HB, P, HNP⟩ := hrel
                  have hL := HLO.out.len HO9.out
                  have hL36 : L.length ≤ 36 := by have := HKL.out; omega
                  clear hL
                  by_cases hqn : q < nl
                  · have hqi : (q : Int) < (nl : Int) := by omega
                    have hp3 : IntKind.i64.wrap ((q : Int) + 1) = (q : Int) + 1 := IntWalk.i64_in _ (by omega)
                    obtain ⟨gx, rfl, _, hgx⟩ := own_at P (by omega)
                    obtain ⟨b9, o9, hbe, _, hca⟩ := (Rd.of_own P).2 (by omega)
                    simp only [Option.some.injEq, Addr.mk.injEq, and_true] at hbe
                    obtain ⟨rfl, rfl⟩ := hbe
                    have kq : q < nx.length := by rw [HNL.out]; exact hqn
                    have cq9 : wr.cell? ⟨gx, q, none⟩ = some (.int .i64 (nx[q] : Nat)) := by
                      have h9 := hca q _ (show (ints (cast nx))[q]? = some (.int .i64 (nx[q] : Nat)) by unfold ints cast; simp [kq])
                      rwa [Nat.zero_add] at h9
                    have hmem := List.getElem_mem kq
                    have HXM : Hid (nx[q] ∈ nextN m y) := (by rw [HNX.out]; exact hmem : nx[q] ∈ nextN m y)
                    have hxk : nx[q] < k := by have := (mem_nextN.1 HXM.out).1; have := HKL.out; omega
                    have HQS : Hid (∀ L' : List Nat, (∀ (e : Nat) (he : e < nx.length), e < q → nx[e] ∈ L') → nx[q] ∈ L' → ∀ (e : Nat) (he : e < nx.length), e < q + 1 → nx[e] ∈ L') := (fun L' h9 h8 e he heq => by
                      rcases Nat.lt_or_ge e q with h7 | h7
                      · exact h9 e he h7
                      · have e6 : e = q := by omega
                        subst e6
                        exact h8 : ∀ L' : List Nat, _)
                    clear hca hmem
                    generalize nx[q] = x at *
                    have hyL : y ∈ L := by obtain ⟨h9, e9⟩ := List.getElem?_eq_some_iff.1 HY.out; rw [← e9]; exact List.getElem_mem h9
                    have HYL := Lib.hid hyL
                    obtain ⟨bs, hbs, cs⟩ := HB.out.o.scell hxk HSO.out.1
                    clear hyL
                    have hxki : (x : Int) < (k : Int) := by omega
                    cases bs
                    · have HXN : Hid (x ∉ L) := (fun h9 => (by have h8 := (HSO.out.2 x hxk).2 (.inr h9); rw [hbs] at h8; exact absurd h8 (by decide)) : x ∉ L)
                      have fz := HB.out.o.seen.frozenAt x
                      clear hbs
                      go_upto_region 18 with (fail)
                      have HB8 := Lib.hid (HB.out.mark x)
                      have hc8 : Ch (fun j => j = gs) wr (wr.setCell ⟨gs, x, none⟩ (.bool true)) := ⟨rfl, rfl, rfl, (by simp), fun y _ hk => Below.heap_setCell wr ⟨gs, x, none⟩ (.bool true) y hk⟩
                      have P8 := own_ch P hc8 (fun y hy => (HNP.out y hy).1)
                      have hgx8 : gx < (wr.setCell ⟨gs, x, none⟩ (.bool true)).heap.size := by simpa using hgx
                      generalize World.setCell wr ⟨gs, x, none⟩ (.bool true) = w8 at *
                      have HB9 := Lib.hid (HB8.out.on (Below.alloc (Below.refl _ _) (Nat.le_refl _) (.cells #[.int .i64 (x : Int)] 3)))
                      have P9 := Lib.hid (own_below P8 (Below.alloc (Below.refl _ _) (Nat.le_refl _) (.cells #[.int .i64 (x : Int)] 3)))
                      have OW := HB9.out.part
                      have HVV := Lib.hid ((Blk.new w8 3 (ints [(x : Int)])).rd (size := 1) (n := 1) rfl)
                      have hl9 := HB8.out.o.lts
                      have hbase : w.heap.size + 1 ≤ (w8.alloc (.cells #[.int .i64 (x : Int)] 3)).heap.size := by rw [World.size_alloc]; omega
                      generalize hll : L.length = ll at *
                      have HLL := Lib.hid hll
                      clear HB HB8 P P8 hc8 fz cs cq9 hll
                      go_wp2_with (at_builtin; refine wpList_append_rd rfl _ _ 22 rfl (w.heap.size + 1) 3 j0 (.int .i64 0) 1 8 Try.underlying22 hj0 hy0 hy1 hy2 rfl (by decide) _ _ _ rfl OW _ _ _ _ _ rfl HVV.out (ints_one [(x : Int)]) ?c1 ?d1 ?e1 ?_)
                      case c1 => simp only [maxLen]; omega
                      case d1 => omega
                      case e1 => exact hbase
                      intro A7 c7 w7 h7 own7 grow7 at7
                      have PU : ∃ g7, A7 = some ⟨g7, 0, none⟩ ∧ (g7 = gp ∨ (w8.alloc (.cells #[.int .i64 (x : Int)] 3)).heap.size ≤ g7) ∧ BSt w gs k ql c1 A1 rs (S.set x true) bx g7 c7 (L ++ [x]) w7 := by
                        have e9 := HLL.out
                        subst e9
                        exact HB9.out.push own7 grow7 (fun q9 h9 => by have := at7 q9 h9; rw [World.size_alloc]; exact this)
                      obtain ⟨g7, rfl, hg7, B7⟩ := PU
                      rw [World.size_alloc] at hg7
                      have C7 : Ch (fun j => j = gp) (w8.alloc (.cells #[.int .i64 (x : Int)] 3)) w7 := Ch.of_grown grow7 (fun j e => by have e9 : gp = j := (by simpa [Value.ownBlock] using e); exact e9.symm)
                      have P7 := Lib.hid (own_ch P9.out C7 (fun y hy => (HNP.out y hy).2))
                      have HNP7 : Hid (∀ y, Value.ownBlock (.slice (some ⟨gx, 0, none⟩) nl c2) = some y → y ≠ gs ∧ y ≠ g7) := (fun y hy => by
                        have h1 := HNP.out y hy
                        have e9 : gx = y := (by simpa [Value.ownBlock] using hy)
                        refine ⟨h1.1, ?_⟩
                        rcases hg7 with h9 | h9
                        · rw [h9]; exact h1.2
                        · omega : ∀ y, Value.ownBlock (.slice (some ⟨gx, 0, none⟩) nl c2) = some y → y ≠ gs ∧ y ≠ g7)
                      have HB7 := Lib.hid B7
                      have HS7 : Hid (SeenOk m j k (S.set x true) (L ++ [x])) := (HSO.out.mark hxk : SeenOk m j k (S.set x true) (L ++ [x]))
                      have HL7 : Hid (LstOk m j (L ++ [x])) := (HLO.out.push HYL.out HXM.out HXN.out : LstOk m j (L ++ [x]))
                      have HC7 : Hid (ClsOk m (L ++ [x]) a) := (HCO.out.push (by have := HLL.out; omega) : ClsOk m (L ++ [x]) a)
                      have HY7 : Hid ((L ++ [x])[a]? = some y) := (by rw [List.getElem?_append_left (by rw [HLL.out]; exact haL)]; exact HY.out : (L ++ [x])[a]? = some y)
                      have HQ7 : Hid (∀ (e : Nat) (he : e < nx.length), e < q + 1 → nx[e] ∈ L ++ [x]) := (HQS.out (L ++ [x]) (fun e he heq => List.mem_append_left _ (HQ.out e he heq)) (List.mem_append_right _ (List.mem_singleton.2 rfl)) : ∀ (e : Nat) (he : e < nx.length), e < q + 1 → nx[e] ∈ L ++ [x])
                      clear own7 grow7 at7 OW HVV HB9 P9 C7 B7 HSO HLO HCO HY HQ HQS HXN HYL HXM
                      go_wp2_with fail
                      go_roundw
                      case rel => exact ⟨g7, c7, L ++ [x], S.set x true, q + 1, (by rw [List.length_append, List.length_singleton, HLL.out]), by go_num, by omega, (by rw [List.length_append, List.length_singleton, HLL.out]; omega), HY7, HL7, HC7, HQ7, HS7, HB7, P7.out, HNP7⟩
                      case measure => simp [intOf]; omega
                    · have hxl9 : x ∈ L := by
                        rcases (HSO.out.2 x hxk).1 hbs with h9 | h9
                        · exact absurd h9 (Done.apart HO9.out HND.out ((HLO.out.2.2 y HYL.out).step HXM.out))
                        · exact h9
                      have HXL := Lib.hid hxl9
                      clear hxl9
                      have HQ7 : Hid (∀ (e : Nat) (he : e < nx.length), e < q + 1 → nx[e] ∈ L) := (HQS.out L HQ.out HXL.out : ∀ (e : Nat) (he : e < nx.length), e < q + 1 → nx[e] ∈ L)
                      clear hbs HQS HQ HXM
                      go_wp2_with fail
                      go_roundw
                      case rel => exact ⟨gp, cq, L, S, q + 1, rfl, by go_num, by omega, haL, HY, HLO, HCO, HQ7, HSO, HB, P, HNP⟩
                      case measure => simp [intOf]; omega
                  · have hqe : q = nl := by omega
                    subst hqe
                    have HC9 : Hid (ClsOk m L (a + 1)) := (HCO.out.next HY.out (fun x hx => by
                      rw [HNX.out] at hx
                      obtain ⟨e, he, rfl⟩ := List.mem_iff_getElem.1 hx
                      exact HQ.out e he (by rw [← HNL.out]; exact he)) : ClsOk m L (a + 1))
                    clear HQ HCO P HNP
                    go_wp2_with fail
                    go_roundw
                    case rel => exact ⟨gp, cq, L, S, a + 1, rfl, by go_num, by omega, HLO, HC9, HSO, HB⟩
                    case measure => simp [intOf]; omega
              · have hae : a = L.length := by omega
                subst hae
                have HMM := Lib.hid (ClsOk.mem HO9.out HLO.out HCO.out)
                have HSO2 := Lib.hid (comp_sorted HMM.out HLO.out.1)
                have HS9 : Hid (SeenOk m (j + 1) k S []) := (HSO.out.done HO9.out HKL.out HMM.out : SeenOk m (j + 1) k S [])
                have hpl : (cast (compL m j)).length = L.length := by rw [← HSO2.out, List.length_mergeSort, cast_len]
                have HPA : Hid (partsT m (j + 1) = partsT m j ++ [cast (compL m j)]) := partsT_yes (head_yes HO9.out HND.out)
                clear HCO HLO HSO HMM
                go_wp2_with fail
                refine (sortI_any HB.out.part (by omega) (by omega)).mono ?_
                rintro e w5 ⟨rfl, own5, gr5⟩
                rw [HSO2.out] at own5
                have C5 : Ch (fun j => j = gp) wr w5 := Ch.of_grown gr5 (fun j e => by injection e with e; exact e.symm)
                have hps := HB.out.ps
                have hpn := Lib.hid HB.out.pn
                have hpo := Lib.hid HB.out.po
                have hgp := HB.out.lts
                have O5 := HB.out.o.other C5 (fun r hr e => HB.out.pn r hr e) (fun y hy e => HB.out.po (by rw [hy, e])) (fun e => HB.out.ps e.symm) (fun y e => by omega)
                have hgp5 : gp < w5.heap.size := Nat.lt_of_lt_of_le hgp.1 C5.size
                rw [← hpl] at own5 hL36 ⊢
                generalize cast (compL m j) = cl at *
                clear hpl hal ha hL1 HB gr5 C5 HSO2
                have HO5 := Lib.hid O5
                have P5 := Lib.hid own5
                clear O5 own5
                have HO6 := Lib.hid (HO5.out.on (Below.alloc (Below.refl _ _) (Nat.le_refl _) (.cells #[.slice (some ⟨gp, 0, none⟩) cl.length cq] 22)))
                have P6 := Lib.hid (own_below P5.out (Below.alloc (Below.refl _ _) (Nat.le_refl _) (.cells #[.slice (some ⟨gp, 0, none⟩) cl.length cq] 22)))
                have OW := HO6.out.nest.out
                have HVV := Lib.hid ((Blk.new w5 22 [Rw.val ⟨gp, cq, cl⟩]).rd (size := 1) (n := 1) rfl)
                have hl5 := HO5.out.lts
                have hbase : w.heap.size + 1 ≤ (w5.alloc (.cells #[.slice (some ⟨gp, 0, none⟩) cl.length cq] 22)).heap.size := by rw [World.size_alloc]; omega
                clear HO5 P5
                go_wp2_with (at_builtin; refine wpList_append_rd rfl _ _ 26 rfl (w.heap.size + 1) 22 i0 (.slice none 0 0) 1 24 Try.underlying26 hi0 hz0 hz1 hz2 rfl (by decide) _ _ _ rfl OW _ _ _ _ _ rfl HVV.out (vals_one [⟨gp, cq, cl⟩]) ?c1 ?d1 ?e1 ?_)
                case c1 => simp only [maxLen]; omega
                case d1 => omega
                case e1 => exact hbase
                intro A7 c7 w7 h7 own7 grow7 at7
                have C7 : Ch (fun x => Value.ownBlock (.slice A1 ql c1) = some x) (w5.alloc (.cells #[.slice (some ⟨gp, 0, none⟩) cl.length cq] 22)) w7 := Ch.of_grown grow7 (fun _ h => h)
                have N7 : Nest w7 (w.heap.size + 1) A7 c7 (ql + 1) (rs ++ [⟨gp, cq, cl⟩]) := Nest.push HO6.out.nest P6.out hpo.out (fun x hx e => hpn.out x hx e) own7 grow7 (fun q9 h9 => by have := at7 q9 h9; rw [World.size_alloc]; exact this)
                have HO7 : Hid (OSt w gs k (ql + 1) c7 A7 (rs ++ [⟨gp, cq, cl⟩]) S bx w7) := by
                  refine ⟨N7, own_ch HO6.out.seen C7 (fun x hx e => ?_), HO6.out.box.ch C7 (fun e => ?_), Below.ch HO6.out.bel C7 HO6.out.bel.size (fun x e => ?_), ?_, ?_⟩
                  · have e9 : gs = x := (by simpa [Value.ownBlock] using hx)
                    exact HO6.out.so (by rw [e9]; exact e)
                  · have := (HO6.out.nest.lt.1 _ e).1; omega
                  · have := (HO6.out.nest.lt.1 _ e).1; omega
                  · intro r hr
                    rcases List.mem_append.1 hr with h9 | h9
                    · exact HO6.out.sn r h9
                    · rw [List.mem_singleton.1 h9]; exact hps
                  · intro e
                    rcases at7 gs e with h9 | h9
                    · exact HO6.out.so h9
                    · have := hl5.1; omega
                clear own7 grow7 at7 OW HVV HO6 P6 C7 N7
                go_wp2_with fail
                go_roundw
                case rel => exact ⟨A7, c7, rs ++ [⟨gp, cq, cl⟩], S, j + 1, (by rw [List.length_append, List.length_singleton, HQL.out]), by go_num, by omega, (by rw [List.length_append, List.length_singleton, HQL.out]; omega), (by show _ = _; rw [List.map_append, HL.out, HPA.out]; rfl), HS9, (by rw [List.length_append, List.length_singleton, HQL.out]; exact HO7)⟩
                case measure => simp [intOf]; omega
          · have hd9 : Done m j j := by
              rcases (HS.out.2 j hlt).1 hbs with h9 | h9
              · exact h9
              · exact absurd h9 (List.not_mem_nil)
            have HD := Lib.hid hd9
            clear hd9
            clear hbs
            go_wp2_with fail
            go_roundw
            case rel => exact ⟨A1, c1, rs, S, j + 1, (by rw [HQL.out]), by go_num, by omega, (by rw [HQL.out]; omega), (by show _ = _; rw [partsT_no (head_no HD.out)]; exact HL.out), HS.out.stay (.inr HD.out), (by rw [HQL.out]; exact HO)⟩
            case measure => simp [intOf]; omega
      · have hje : j = k := by omega
        subst hje
        have HN9 : Hid (Nest wr w.heap.size A1 c1 ql rs) := (HO.out.nest.le (by omega) : Nest wr w.heap.size A1 c1 ql rs)
        have HG9 := Lib.hid HO.out.bel
        clear HO HS
        go_wp2_with fail
        go_ret2
        exact ⟨A1, c1, rs, by rw [HEND.out.1, HQL.out]; rfl, by rw [HEND.out.2]; exact HL.out, by rw [HQL.out]; exact HN9.out, HG9.out⟩
end Go.Proofs.Ytdjdjceemfaigaa
