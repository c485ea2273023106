/- Contract: OpenParts of the reference. -/
import Derived.Test.YtdjdjceemfaigaaPart
import Derived.Test.YtdjdjceemfaigaaNst
namespace Go.Proofs.Ytdjdjceemfaigaa
set_option linter.unusedVariables false
set_option linter.unusedSimpArgs false
open Go.RowKit
def OpEnd (w : World) (m : Mp) (e : Ending) (w' : World) : Prop := ∃ (A : Option Addr) (c : Nat) (rs : List Rw), e = .returned (.tuple #[.slice A rs.length c, .bool (okM m)]) ∧ rs.map Rw.l = opL m ∧ Nest w' w.heap.size A c rs.length rs ∧ Below w.heap.size w w'
theorem partsT_no {m : Mp} {j : Nat} (h : isHead m j = false) : partsT m (j + 1) = partsT m j := by rw [partsT_next, h]; rfl
theorem partsT_yes {m : Mp} {j : Nat} (h : isHead m j = true) : partsT m (j + 1) = partsT m j ++ [cast (compL m j)] := by rw [partsT_next, h]; rfl
open Classical in
theorem not_head {m : Mp} {j : Nat} (h : ¬ OpC m j) : isHead m j = false := by
  cases h9 : isHead m j
  · rfl
  · unfold isHead at h9
    exact absurd (of_decide_eq_true h9).1 h
set_option maxRecDepth 100000 in
set_option maxHeartbeats 8000000 in
theorem OpenParts_spec {m : Mp} {v : Value} {w : World} (hv : MapIn w m v) :
    Calls Try.prog 5 #[v] w fun e w' => OpEnd w m e w' := by
  have HM : ∀ W : World, Below w.heap.size w W → _ := fun W hb => l2Map_m (hv.on hb)
  have HPA : ∀ (W : World) (i : Nat), Below w.heap.size w W → Valid m → OpC m i → _ := fun W i hb V hi => l2Part_any (hv.on hb) V hi
  obtain ⟨A, n, cp, B, k, d, rfl, h1, h2, h3, h4⟩ := hv
  have X := (Blk.new w 29 [.int .i64 m.wd, .int .i64 m.ht, .slice A n cp, .slice B k d]).alloc (.cells #[] 22)
  have G : Below w.heap.size w ((w.alloc (.cells #[.int .i64 m.wd, .int .i64 m.ht, .slice A n cp, .slice B k d] 29)).alloc (.cells #[] 22)) := (by repeat (first | exact Below.refl _ _ | refine below_drewN ?_ _ | refine Below.drew ?_ | refine Below.alloc ?_ (by first | omega | (simp; done) | (simp; omega)) _ | refine Below.setCell ?_ (by first | omega | (simp; done) | (simp; omega)) _))
  have O := World.ownsRow_lit (base := w.heap.size + 1) (e := 22) (size := 1) (w.alloc (.cells #[.int .i64 m.wd, .int .i64 m.ht, .slice A n cp, .slice B k d] 29)) #[] 0 (by simp) (by decide) rfl
  rw [World.size_alloc] at O
  have N0 := Lib.hid (Nest.nil_ O)
  obtain ⟨x0, x1, x2, x3⟩ := blk4 X
  cases ok : okM m
  · rw [ok] at HM
    have HEND : Hid (okM m = false ∧ opL m = []) := (⟨ok, by unfold opL; rw [ok]; rfl⟩ : okM m = false ∧ opL m = [])
    clear ok HPA O
    go_enter Try.func5, Try.ntmps5
    go_wp2_with fail
    refine (HM _ G).mono ?_
    rintro e w1 ⟨rfl, hb⟩
    replace G := G.trans (hb.mono G.size)
    replace N0 := Lib.hid (N0.out.on hb)
    clear hb x0 x1 x2 x3 X
    go_wp2_with fail
    go_ret2
    exact ⟨_, 0, [], by rw [HEND.out.1]; rfl, by rw [HEND.out.2]; rfl, N0.out.le (by omega), G⟩
  · have V := valid_iff.1 ok
    rw [ok] at HM
    have hkl := h2.len
    have n36 := V.n36
    have HEND : Hid (okM m = true ∧ opL m = partsT m k) := (⟨ok, by unfold opL; rw [if_pos ok, hkl]⟩ : okM m = true ∧ opL m = partsT m k)
    have HV := Lib.hid V
    have HKL := Lib.hid hkl
    have hk36 : k ≤ 36 := by omega
    obtain ⟨bl, off, rfl, hbb, hca⟩ := h2.2 (show 0 < k by omega)
    have HCA := Lib.hid hca
    have HP := Lib.hid HPA
    obtain ⟨i0, hi0, hz0, hz1, hz2⟩ := info_parts nest_info
    clear ok V HPA hkl n36 hca h2 O
    go_enter Try.func5, Try.ntmps5
    go_wp2_with fail
    refine (HM _ G).mono ?_
    rintro e w1 ⟨rfl, hb⟩
    replace G := G.trans (hb.mono G.size)
    replace N0 := Lib.hid (N0.out.on hb)
    replace X := X.on hb
    clear hb x0 x1 x2 x3 HM
    go_wp2_with fail
    go_loopw [4, 5] (fun o i wr => ∃ (A1 : Option Addr) (c1 : Nat) (rs : List Rw) (j : Nat), o = .slice A1 rs.length c1 ∧ i = .int .i64 j ∧ j ≤ k ∧ rs.length ≤ j ∧ Hid (rs.map Rw.l = partsT m j) ∧ Hid (Nest wr (w.heap.size + 1) A1 c1 rs.length rs) ∧ Blk wr w.heap.size 29 [.int .i64 m.wd, .int .i64 m.ht, .slice A n cp, .slice (some ⟨bl, off, none⟩) k d] ∧ Below w.heap.size w wr) (fun _ i _ => k - (intOf i).toNat)
    case atStart => exact ⟨_, 0, [], 0, rfl, rfl, Nat.zero_le _, Nat.le_refl _, rfl, N0, X, G⟩
    clear N0 X G
    case round =>
      obtain ⟨A1, c1, rs, j, rfl, rfl, hj, hrj, HL, N, X, G⟩ := hrel
      obtain ⟨x0, x1, x2, x3⟩ := blk4 X
      generalize hql : rs.length = ql at *
      have HQL := Lib.hid hql
      clear hql
      by_cases hlt : j < k
      · have hlti : (j : Int) < (k : Int) := by omega
        have hp1 : IntKind.i64.wrap ((j : Int) + 1) = (j : Int) + 1 := IntWalk.i64_in _ (by omega)
        have kx : j < m.co.length := by rw [HKL.out]; exact hlt
        have hcv := coA_nat m kx
        have cz : wr.cell? ⟨bl, off + j, none⟩ = some (.int .i64 (coA m (j : Int))) := by
          rw [hcv]
          exact ((bcell G).1 bl (off + j) hbb).trans (HCA.out j _ (ints_get kx))
        have hzb := (HV.out.co_bd (j : Int)).1
        have HOP : Hid (0 < coA m (j : Int) → OpC m j) := (fun h => ⟨kx, h⟩ : 0 < coA m (j : Int) → OpC m j)
        have HNO : Hid (coA m (j : Int) = 0 → partsT m (j + 1) = partsT m j) := (fun h => partsT_no (not_head fun h9 => by have := h9.2; omega) : coA m (j : Int) = 0 → partsT m (j + 1) = partsT m j)
        generalize coA m (j : Int) = z at *
        clear hcv
        by_cases hz : z = 0
        · subst hz
          go_wp2_with fail
          go_roundw
          case rel => exact ⟨A1, c1, rs, j + 1, (by rw [HQL.out]), by go_num, by omega, (by rw [HQL.out]; omega), (by show _ = _; rw [HNO.out rfl]; exact HL.out), (by rw [HQL.out]; exact N), X, G⟩
          case measure => simp [intOf]; omega
        · have hzI : (z == 0) = false := by simpa using hz
          have hop := HOP.out (by omega)
          have HO9 := Lib.hid hop
          clear hop HNO HOP
          go_wp2_with fail
          refine (HP.out _ j G HV.out HO9.out).mono ?_
          rintro e w2 ⟨A2, c2, rfl, P, hb⟩
          have hwz := hb.size
          have hxr := X.lt
          have hNlt := N.out.lt
          have HNL := Lib.hid hNlt
          replace N := Lib.hid (N.out.on hb)
          replace X := X.on hb
          replace G := G.trans (hb.mono G.size)
          obtain ⟨hl0, hhd⟩ := head_iff HO9.out
          have cl0 : (ints (cast (compL m j)))[0]? = some (.int .i64 ((compL m j)[0] : Nat)) := by unfold ints cast; simp [hl0]
          have HYES : Hid ((compL m j)[0] = j → partsT m (j + 1) = partsT m j ++ [cast (compL m j)]) := (fun h => partsT_yes (hhd.1 h) : (compL m j)[0] = j → _)
          have HNO : Hid ((compL m j)[0] ≠ j → partsT m (j + 1) = partsT m j) := (fun h => partsT_no (by cases h9 : isHead m j; rfl; exact absurd (hhd.2 h9) h) : (compL m j)[0] ≠ j → _)
          obtain ⟨g2, rfl, hg2, hg2l⟩ := own_at P hl0
          obtain ⟨b9, o9, hbe, _, hca⟩ := (Rd.of_own P).2 hl0
          simp only [Option.some.injEq, Addr.mk.injEq, and_true] at hbe
          obtain ⟨rfl, rfl⟩ := hbe
          have cy := hca 0 _ cl0
          rw [Nat.zero_add] at cy
          generalize (compL m j)[0] = z0 at *
          rw [← cast_len] at P hl0 ⊢
          generalize cast (compL m j) = cl at *
          have hcl9 : 0 < cl.length := hl0
          clear hb hca cl0 hhd x0 x1 x2 x3 cz hNlt hl0
          obtain ⟨x0, x1, x2, x3⟩ := blk4 X
          by_cases hh : z0 = j
          · have hhI : ((z0 : Int) == (j : Int)) = true := by rw [hh]; simp
            have HEQ := Lib.hid (HYES.out hh)
            have NL := N.out.alloc (.cells #[.slice (some ⟨g2, 0, none⟩) cl.length c2] 22)
            have PL := own_below P (Below.alloc (Below.refl _ _) (Nat.le_refl _) (.cells #[.slice (some ⟨g2, 0, none⟩) cl.length c2] 22))
            have OW := NL.out
            have HNLL := Lib.hid NL
            have HPL := Lib.hid (own_le PL (base' := w.heap.size + 1) (by omega))
            have HVV := Lib.hid ((Blk.new w2 22 [Rw.val ⟨g2, c2, cl⟩]).rd (size := 1) (n := 1) rfl)
            have X5 := Lib.hid (X.alloc (.cells #[.slice (some ⟨g2, 0, none⟩) cl.length c2] 22))
            have G5 := Lib.hid (G.alloc G.size (.cells #[.slice (some ⟨g2, 0, none⟩) cl.length c2] 22))
            have hgs := G.size
            have hxl := X.lt
            clear hh NL PL N P HYES HNO
            go_wp2_with (at_builtin; refine wpList_append_rd rfl _ _ 26 rfl (w.heap.size + 1) 22 i0 (.slice none 0 0) 1 24 Try.underlying26 hi0 hz0 hz1 hz2 rfl (by decide) _ _ _ rfl OW _ _ _ _ _ rfl HVV.out (vals_one [⟨g2, c2, cl⟩]) ?c1 ?d1 ?e1 ?_)
            case c1 => simp only [maxLen]; omega
            case d1 => omega
            case e1 => simp; omega
            intro A7 c7 w7 h7 own7 grow7 at7
            have hlt7 := OW.lt
            have N7 : Hid (Nest w7 (w.heap.size + 1) A7 c7 (ql + 1) (rs ++ [⟨g2, c2, cl⟩])) := (Nest.push HNLL.out HPL.out (fun e => by have := (HNL.out.1 g2 e).2; omega) (fun x hx e => by have h9 := (HNL.out.2 x hx).2; have e8 : x.g = g2 := e; omega) own7 grow7 (fun q9 h9 => by have := at7 q9 h9; rw [World.size_alloc]; exact this) : Nest w7 (w.heap.size + 1) A7 c7 (ql + 1) (rs ++ [⟨g2, c2, cl⟩]))
            have C7 : Ch (fun j => Value.ownBlock (.slice A1 ql c1) = some j) _ w7 := Ch.of_grown grow7 (fun _ h => h)
            have X7 := X5.out.ch C7 (fun e => by have := (hlt7 _ e).1; omega)
            have G7 := Below.ch G5.out C7 (by simp; omega) (fun j hj => by have := (hlt7 j hj).1; omega)
            have HX7 := Lib.hid X7
            have HG7 := Lib.hid G7
            clear own7 grow7 at7 hlt7 OW HNLL HPL HVV X5 G5 C7 X7 G7
            go_wp2_with fail
            go_roundw
            case rel => exact ⟨A7, c7, rs ++ [⟨g2, c2, cl⟩], j + 1, (by rw [List.length_append, List.length_singleton, HQL.out]), by go_num, by omega, (by rw [List.length_append, List.length_singleton, HQL.out]; omega), (by show _ = _; rw [List.map_append, HL.out, HEQ.out]; rfl), (by rw [List.length_append, List.length_singleton, HQL.out]; exact N7), HX7.out, HG7.out⟩
            case measure => simp [intOf]; omega
          · have hhI : ((z0 : Int) == (j : Int)) = false := by simp; omega
            have HEQ := Lib.hid (HNO.out hh)
            clear hh HYES HNO
            go_wp2_with fail
            go_roundw
            case rel => exact ⟨A1, c1, rs, j + 1, (by rw [HQL.out]), by go_num, by omega, (by rw [HQL.out]; omega), (by show _ = _; rw [HEQ.out]; exact HL.out), (by rw [HQL.out]; exact N), X, G⟩
            case measure => simp [intOf]; omega
      · have hje : j = k := by omega
        subst hje
        go_wp2_with fail
        go_ret2
        exact ⟨A1, c1, rs, by rw [HEND.out.1, HQL.out]; rfl, by rw [HEND.out.2]; exact HL.out, by rw [HQL.out]; exact N.out.le (by omega), G⟩
end Go.Proofs.Ytdjdjceemfaigaa
