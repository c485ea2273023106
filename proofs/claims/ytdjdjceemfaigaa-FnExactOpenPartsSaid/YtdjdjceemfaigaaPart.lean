/- Contract: the reference's l2Part: the cells to which one comes from a cell by steps. -/
import Derived.Test.YtdjdjceemfaigaaPut
namespace Go.Proofs.Ytdjdjceemfaigaa
set_option linter.unusedVariables false
set_option linter.unusedSimpArgs false
open Go.RowKit
def lenV : Value → Nat
  | .slice _ n _ => n
  | _ => 0
def bitV : Value → Nat
  | .bool true => 1
  | _ => 0
/-- Rising, with the cell, all of it reached. -/
def PartP (m : Mp) (c : Nat) (L : List Nat) : Prop := L.Pairwise (· < ·) ∧ c ∈ L ∧ ∀ k ∈ L, Reach m c k
theorem asc_nodup {l : List Nat} (h : l.Pairwise (· < ·)) : l.Nodup := by
  unfold List.Nodup
  exact h.imp fun h e => by omega
theorem PartP.len {m : Mp} {c : Nat} {L : List Nat} (hc : OpC m c) (h : PartP m c L) : 1 ≤ L.length ∧ L.length ≤ m.co.length :=
  ⟨List.length_pos_of_mem h.2.1, nodup_le _ (asc_nodup h.1) fun x hx => ((h.2.2 x hx).good hc).1⟩
theorem PartP.put {m : Mp} {c i x : Nat} {L L' : List Nat} (h : PartP m c L) (hi : i ∈ L) (hx : x ∈ nextN m i) (ha : L'.Pairwise (· < ·)) (hm : ∀ y, y ∈ L' ↔ y = x ∨ y ∈ L) : PartP m c L' :=
  ⟨ha, (hm c).2 (.inr h.2.1), fun k hk => by
    rcases (hm k).1 hk with e | e
    · rw [e]; exact (h.2.2 i hi).step hx
    · exact h.2.2 k e⟩
set_option maxRecDepth 100000 in
set_option maxHeartbeats 8000000 in
theorem l2Part_any {m : Mp} {v : Value} {c : Nat} {w : World} (hv : MapIn w m v) (V : Valid m) (hc : OpC m c) :
    Calls Try.prog 15 #[v, .int .i64 c] w fun e w' => ∃ A cp, e = .returned (.slice A (compL m c).length cp) ∧ w'.ownsRow w.heap.size 3 1 (.slice A (compL m c).length cp) (compL m c).length (ints (cast (compL m c))) ∧ Below w.heap.size w w' := by
  have HN : ∀ (W : World) (i : Nat), Below w.heap.size w W → i < m.co.length → _ := fun W i hb hi => l2Next_any (hv.on hb) V (c := (i : Int)) (by omega) (by omega)
  have HNX := Lib.hid HN
  obtain ⟨A, n, cp, B, k, d, rfl, h1, h2, h3, h4⟩ := hv
  have hkl := h2.len
  have n36 := V.n36
  have HC := Lib.hid hc
  have hc36 : c < 36 := by have := hc.1; omega
  have HKL := Lib.hid hkl
  have hk36 : k ≤ 36 := by omega
  obtain ⟨i0, hi0, hz0, hz1, hz2⟩ := info_parts int_info
  have X := Blk.new w 29 [.int .i64 m.wd, .int .i64 m.ht, .slice A n cp, .slice B k d]
  have G : Below w.heap.size w ((w.alloc (.cells #[.int .i64 m.wd, .int .i64 m.ht, .slice A n cp, .slice B k d] 29)).alloc (.cells #[.int .i64 c] 3)) := (by repeat (first | exact Below.refl _ _ | refine below_drewN ?_ _ | refine Below.drew ?_ | refine Below.alloc ?_ (by first | omega | (simp; done) | (simp; omega)) _ | refine Below.setCell ?_ (by first | omega | (simp; done) | (simp; omega)) _))
  have O := World.ownsRow_lit (base := w.heap.size) (e := 3) (size := 1) (w.alloc (.cells #[.int .i64 m.wd, .int .i64 m.ht, .slice A n cp, .slice B k d] 29)) #[.int .i64 c] 1 (by simp) (by decide) rfl
  have P0 : Hid (PartP m c [c]) := (⟨List.pairwise_singleton _ _, List.mem_singleton.2 rfl, fun k hk => by rw [List.mem_singleton.1 hk]; exact Reach.self m c⟩ : PartP m c [c])
  replace X := X.alloc (.cells #[.int .i64 c] 3)
  clear hc HN hkl n36
  go_enter Try.func15, Try.ntmps15
  go_wp2_with fail
  go_loopw [5, 6] (fun o g wr => ∃ (A1 : Option Addr) (c1 : Nat) (L : List Nat) (again : Bool), o = .slice A1 L.length c1 ∧ g = .bool again ∧ Hid (PartP m c L) ∧ Hid (again = false → ∀ a ∈ L, ∀ x ∈ nextN m a, x ∈ L) ∧ wr.ownsRow w.heap.size 3 1 (.slice A1 L.length c1) L.length (ints (cast L)) ∧ Blk wr w.heap.size 29 [.int .i64 m.wd, .int .i64 m.ht, .slice A n cp, .slice B k d] ∧ Below w.heap.size w wr) (fun o g _ => 2 * (40 - lenV o) + bitV g)
  case atStart => exact ⟨_, _, [c], true, rfl, rfl, P0, (fun h => by cases h), (by rw [World.size_alloc] at O; exact O), X, G⟩
  clear O X G P0
  case round =>
    obtain ⟨A1, c1, L, again, rfl, rfl, HP, HCL, O, X, G⟩ := hrel
    cases again
    · have e9 := comp_of HC.out HP.out.1 HP.out.2.2 HP.out.2.1 (HCL.out rfl)
      have HE := Lib.hid e9
      clear HCL e9
      go_wp2_with fail
      go_ret
      exact ⟨A1, c1, by rw [← HE.out]; rfl, by rw [← HE.out]; exact O, G⟩
    · have hL := HP.out.len HC.out
      have hLk : L.length ≤ 36 := by have := HKL.out; omega
      have hL1 := hL.1
      clear hL HCL
      generalize hll : L.length = l0 at *
      have HLL := Lib.hid hll
      clear hll
      go_wp2_with fail
      go_loopw [5, 6, 7] (fun o g i wr => ∃ (A1 : Option Addr) (c1 : Nat) (L : List Nat) (again : Bool) (j : Nat), o = .slice A1 L.length c1 ∧ g = .bool again ∧ i = .int .i64 j ∧ j ≤ k ∧ Hid (PartP m c L) ∧ Hid (again = false → ∀ a ∈ L, a < j → ∀ x ∈ nextN m a, x ∈ L) ∧ (l0 ≤ L.length ∧ L.length ≤ 36) ∧ Hid (again = true → l0 < L.length) ∧ wr.ownsRow w.heap.size 3 1 (.slice A1 L.length c1) L.length (ints (cast L)) ∧ Blk wr w.heap.size 29 [.int .i64 m.wd, .int .i64 m.ht, .slice A n cp, .slice B k d] ∧ Below w.heap.size w wr) (fun _ _ i _ => k - (intOf i).toNat)
      case atStart => exact ⟨A1, c1, L, false, 0, (by rw [HLL.out]), rfl, rfl, Nat.zero_le _, HP, (fun _ a _ h => absurd h (by omega)), (by rw [HLL.out]; omega), (fun h => absurd h (by decide)), (by rw [HLL.out]; exact O), X, G⟩
      clear O X G HP HLL
      case round =>
        obtain ⟨A1, c1, L, again, j, rfl, rfl, rfl, hjk, HP, HCL, hLb, HLT, O, X, G⟩ := hrel
        obtain ⟨x0, x1, x2, x3⟩ := blk4 X
        have hL1 := (HP.out.len HC.out).1
        generalize hll : L.length = l1 at *
        have HLL := Lib.hid hll
        clear hll
        by_cases hlt : j < k
        · have hlti : (j : Int) < (k : Int) := by omega
          have hp1 : IntKind.i64.wrap ((j : Int) + 1) = (j : Int) + 1 := IntWalk.i64_in _ (by omega)
          go_wp2_with fail
          refine (l1Has_any (l := cast L) (x := (j : Int)) (Rd.of_own O) (by simp only [maxLen]; omega)).mono ?_
          rintro e w2 ⟨rfl, hb⟩
          replace O := own_below O hb
          replace X := X.on hb
          replace G := G.trans (hb.mono G.size)
          clear hb x0 x1 x2 x3
          obtain ⟨x0, x1, x2, x3⟩ := blk4 X
          by_cases hin : j ∈ L
          · have hd : decide ((j : Int) ∈ cast L) = true := by simpa using cast_mem.2 hin
            rw [hd]
            have HIN := Lib.hid hin
            clear hd hin
            go_wp2_with fail
            refine (HNX.out _ j G (by rw [HKL.out]; exact hlt)).mono ?_
            rintro e w3 ⟨A2, c2, rfl, P2, hb⟩
            replace O := own_below O hb
            replace X := X.on hb
            have P := own_le P2 (base' := w.heap.size) G.size
            replace G := G.trans (hb.mono G.size)
            clear hb P2 x0 x1 x2 x3
            have HNE : Hid (nextI m (j : Int) = cast (nextN m j)) := (rfl : nextI m (j : Int) = cast (nextN m j))
            rw [HNE.out, cast_len] at P ⊢
            have hnx := nextN_len V j
            obtain ⟨nx, hnxe⟩ : ∃ nx, nextN m j = nx := ⟨_, rfl⟩
            rw [hnxe] at P hnx ⊢
            have HNX2 := Lib.hid hnxe
            generalize hnl : nx.length = nl at *
            have HNL := Lib.hid hnl
            clear hnl hnxe HNE
            go_wp2_with fail
            go_loopw [5, 6, 9] (fun o g i wr => ∃ (A1 : Option Addr) (c1 : Nat) (L : List Nat) (again : Bool) (q : Nat), o = .slice A1 L.length c1 ∧ g = .bool again ∧ i = .int .i64 q ∧ q ≤ nl ∧ Hid (PartP m c L) ∧ Hid (j ∈ L) ∧ Hid (again = false → (∀ a ∈ L, a < j → ∀ x ∈ nextN m a, x ∈ L) ∧ ∀ (e : Nat) (he : e < nx.length), e < q → nx[e] ∈ L) ∧ (l0 ≤ L.length ∧ L.length ≤ 36) ∧ Hid (again = true → l0 < L.length) ∧ wr.ownsRow w.heap.size 3 1 (.slice A1 L.length c1) L.length (ints (cast L)) ∧ wr.ownsRow w.heap.size 3 1 (.slice A2 nl c2) nl (ints (cast nx)) ∧ Blk wr w.heap.size 29 [.int .i64 m.wd, .int .i64 m.ht, .slice A n cp, .slice B k d] ∧ Below w.heap.size w wr) (fun _ _ i _ => nl - (intOf i).toNat)
            case atStart => exact ⟨A1, c1, L, again, 0, (by rw [HLL.out]), rfl, rfl, Nat.zero_le _, HP, HIN, (fun h => ⟨HCL.out h, fun e _ h9 => absurd h9 (by omega)⟩), (by rw [HLL.out]; exact hLb), (fun h => by have := HLT.out h; rw [HLL.out]; exact this), (by rw [HLL.out]; exact O), P, X, G⟩
            clear O P X G HP HLL HIN HCL HLT hLb hL1
            case round =>
              obtain ⟨A1, c1, L, again, q, rfl, rfl, rfl, hq, HP, HIN, HCL, hLb, HLT, O, P, X, G⟩ := hrel
              have hL9 := HP.out.len HC.out
              have hL1 := hL9.1
              clear hL9
              generalize hll : L.length = l1 at *
              have HLL := Lib.hid hll
              clear hll
              by_cases hqn : q < nl
              · have hqi : (q : Int) < (nl : Int) := by omega
                have hp2 : IntKind.i64.wrap ((q : Int) + 1) = (q : Int) + 1 := IntWalk.i64_in _ (by omega)
                obtain ⟨gb, rfl, _, hgb⟩ := own_at P (by omega)
                obtain ⟨bl, off, hbe, _, hca⟩ := (Rd.of_own P).2 (by omega)
                simp only [Option.some.injEq, Addr.mk.injEq, and_true] at hbe
                obtain ⟨rfl, rfl⟩ := hbe
                have kx : q < nx.length := by rw [HNL.out]; exact hqn
                have cz : wr.cell? ⟨gb, q, none⟩ = some (.int .i64 (nx[q] : Nat)) := by have h9 := hca q _ (show (ints (cast nx))[q]? = some (.int .i64 (nx[q] : Nat)) by unfold ints cast; simp [kx]); rwa [Nat.zero_add] at h9
                have hmem := List.getElem_mem kx
                have HXM : Hid (nx[q] ∈ nextN m j) := (by rw [HNX2.out]; exact hmem : nx[q] ∈ nextN m j)
                have hxb : nx[q] ≤ 1000 := by have := (mem_nextN.1 HXM.out).1; have := HKL.out; omega
                have HQS : Hid (∀ L' : List Nat, (∀ (e : Nat) (he : e < nx.length), e < q → nx[e] ∈ L') → nx[q] ∈ L' → ∀ (e : Nat) (he : e < nx.length), e < q + 1 → nx[e] ∈ L') := (fun L' h9 h8 e he heq => by
                  rcases Nat.lt_or_ge e q with h7 | h7
                  · exact h9 e he h7
                  · have e6 : e = q := by omega
                    subst e6
                    exact h8 : ∀ L' : List Nat, _)
                clear hca hmem
                generalize nx[q] = x at *
                go_wp2_with fail
                refine (l1Has_any (l := cast L) (x := (x : Int)) (Rd.of_own O) (by simp only [maxLen]; omega)).mono ?_
                rintro e w4 ⟨rfl, hb⟩
                have cz2 := ((bcell hb).1 gb q hgb).trans cz
                replace O := own_below O hb
                replace P := own_below P hb
                replace X := X.on hb
                replace G := G.trans (hb.mono G.size)
                clear hb cz
                by_cases hxin : x ∈ L
                · have hd : decide ((x : Int) ∈ cast L) = true := by simpa using cast_mem.2 hxin
                  rw [hd]
                  have HXI := Lib.hid hxin
                  clear hd hxin
                  go_wp2_with fail
                  go_roundw
                  case rel => exact ⟨A1, c1, L, again, q + 1, (by rw [HLL.out]), rfl, by go_num, by omega, HP, HIN, (fun h => ⟨(HCL.out h).1, HQS.out L (HCL.out h).2 HXI.out⟩), (by rw [HLL.out]; exact hLb), (fun h => by have := HLT.out h; rw [HLL.out]; exact this), (by rw [HLL.out]; exact O), P, X, G⟩
                  case measure => simp [intOf]; omega
                · have hd : decide ((x : Int) ∈ cast L) = false := by simpa using fun h => hxin (cast_mem.1 h)
                  rw [hd]
                  have HXI := Lib.hid hxin
                  have hcap := own_cap O
                  obtain ⟨g1, rfl, _, _⟩ := own_at O (by omega)
                  clear hd hxin
                  go_wp2_with fail
                  refine (l1Put_any (l := L) (x := x) (Rd.of_own O) (by omega) hcap HP.out.1 HXI.out hxb).mono ?_
                  rintro e w5 ⟨A3, c3, L', rfl, ha', hm', hl', O3, hb⟩
                  have O9 := own_le O3 (base' := w.heap.size) G.size
                  replace P := own_below P hb
                  replace X := X.on hb
                  replace G := G.trans (hb.mono G.size)
                  have HP2 : Hid (PartP m c L') := (HP.out.put HIN.out HXM.out ha' hm' : PartP m c L')
                  have HIN2 : Hid (j ∈ L') := ((hm' j).2 (.inr HIN.out) : j ∈ L')
                  have hl36 : L'.length ≤ 36 := by have := (HP2.out.len HC.out).2; have := HKL.out; omega
                  clear hb O O3 ha' hm' HP HIN
                  have HL2 := Lib.hid hl'
                  clear hl'
                  go_wp2_with fail
                  go_roundw
                  case rel => exact ⟨A3, c3, L', true, q + 1, rfl, rfl, by go_num, by omega, HP2, HIN2, (fun h => absurd h (by decide)), (by have := HL2.out; omega), (fun _ => by have := HL2.out; omega), O9, P, X, G⟩
                  case measure => simp [intOf]; omega
              · have hqe : q = nl := by omega
                subst hqe
                go_wp2_with fail
                go_roundw
                case rel => exact ⟨A1, c1, L, again, j + 1, (by rw [HLL.out]), rfl, by go_num, by omega, HP, (fun h a ha haj x hx => by
                  rcases Nat.lt_or_ge a j with h9 | h9
                  · exact (HCL.out h).1 a ha h9 x hx
                  · have e9 : a = j := by omega
                    subst e9
                    rw [HNX2.out] at hx
                    obtain ⟨e, he, rfl⟩ := List.mem_iff_getElem.1 hx
                    exact (HCL.out h).2 e he (by rw [← HNL.out]; exact he)), (by rw [HLL.out]; exact hLb), (fun h => by have := HLT.out h; rw [HLL.out]; exact this), (by rw [HLL.out]; exact O), X, G⟩
                case measure => simp [intOf]; omega
          · have hd : decide ((j : Int) ∈ cast L) = false := by simpa using fun h => hin (cast_mem.1 h)
            rw [hd]
            have HIN := Lib.hid hin
            clear hd hin
            go_wp2_with fail
            go_roundw
            case rel => exact ⟨A1, c1, L, again, j + 1, (by rw [HLL.out]), rfl, by go_num, by omega, HP, (fun h a ha haj x hx => by
              rcases Nat.lt_or_ge a j with h9 | h9
              · exact HCL.out h a ha h9 x hx
              · have e9 : a = j := by omega
                subst e9
                exact absurd ha HIN.out), (by rw [HLL.out]; exact hLb), (fun h => by have := HLT.out h; rw [HLL.out]; exact this), (by rw [HLL.out]; exact O), X, G⟩
            case measure => simp [intOf]; omega
        · have hje : j = k := by omega
          subst hje
          go_wp2_with fail
          go_roundw
          case rel => exact ⟨A1, c1, L, again, (by rw [HLL.out]), rfl, HP, (fun h a ha x hx => HCL.out h a ha (by have := ((HP.out.2.2 a ha).good HC.out).1; have := HKL.out; omega) x hx), (by rw [HLL.out]; exact O), X, G⟩
          case measure => cases again <;> (try have := HLT.out rfl) <;> simp [lenV, bitV] <;> omega
end Go.Proofs.Ytdjdjceemfaigaa
