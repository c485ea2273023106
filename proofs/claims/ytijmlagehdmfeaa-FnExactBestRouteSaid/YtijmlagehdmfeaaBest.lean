/- Contracts: BestRoute, the program's and the reference's. -/
import Derived.Test.YtijmlagehdmfeaaFarPlain
import Derived.Test.YtijmlagehdmfeaaRg2
namespace Go.Proofs.Ytijmlagehdmfeaa
set_option linter.unusedVariables false
set_option linter.unusedSimpArgs false
open Go.RowKit
/-- How far a walk has come: P the cells behind, x the cell it stands on, f what may still come. -/
structure At (m : Mp) (b a : Nat) (P : List Nat) (x f : Nat) : Prop where
  eq : brF m b 1440 a = P ++ brF m b f x
  lt : x < m.co.length
  op : 0 < coA m x
  lo : 0 ≤ finV m b x
  hi : finV m b x ≤ f
  len : P.length + f ≤ 1440
theorem At.start {m : Mp} {a b : Nat} (V : Valid m) (hb : b < m.co.length) (ha : a < m.co.length) (ho : 0 < coA m a) (h : 0 ≤ finV m b a) : At m b a [] a 1440 :=
  ⟨rfl, ha, ho, h, finV_hi V hb ha, by simp⟩
theorem At.stop {m : Mp} {a b f : Nat} {P : List Nat} (h : At m b a P b f) : brF m b 1440 a = P ++ [b] := by rw [h.eq, brF_stop]
theorem At.step {m : Mp} {a b x f e : Nat} {P : List Nat} (V : Valid m) (hb : b < m.co.length) (h : At m b a P x f) (hne : x ≠ b) (he : e < (nextN m x).length) (h1 : brP m b x (nextN m x)[e] = true)
    (h2 : ∀ i (hi : i < e), brP m b x ((nextN m x)[i]'(by omega)) = false) : ∃ f', At m b a (P ++ [x]) (nextN m x)[e] f' ∧ finV m b (nextN m x)[e] < finV m b x := by
  obtain ⟨f', rfl, e1, e2, e3, e4, e5, e6⟩ := brF_go V hb h.lt h.op h.lo hne h.hi he h1 h2
  refine ⟨f', ⟨?_, e4, e5, e3, e2, ?_⟩, e6⟩
  · rw [h.eq, e1]; simp
  · have := h.len; simp; omega
/-- The words' test is the plain one. -/
theorem brP_enc {m : Mp} (V : Valid m) {b x n : Nat} (hb : b < m.co.length) (hn : n < m.co.length) (h : 0 ≤ finV m b x) (hx : finV m b x ≤ 1440) :
    (enc (finV m b n) + stepV m x n == enc (finV m b x)) = brP m b x n := by
  have s := V.step_bd x n
  have u := finV_hi V hb hn
  have l := finV_lo V hb hn
  rw [show enc (finV m b x) = finV m b x by unfold enc; rw [if_neg (by omega)]]
  unfold brP enc
  by_cases h0 : finV m b n < 0
  · rw [if_pos h0, show decide (0 ≤ finV m b n) = false by simp; omega]
    rw [Bool.false_and]
    rw [beq_eq_false_iff_ne]; omega
  · rw [if_neg h0, show decide (0 ≤ finV m b n) = true by simp; omega, Bool.true_and, Bool.eq_iff_iff]
    simp
theorem brP_int {m : Mp} {b x n : Nat} (h : 0 ≤ finV m b n) : (finV m b n + stepV m x n == finV m b x) = brP m b x n := by
  unfold brP
  rw [show decide (0 ≤ finV m b n) = true by simp; exact h, Bool.true_and, Bool.eq_iff_iff]
  simp
theorem At.step' {m : Mp} {a b x f e : Nat} {P nx : List Nat} (V : Valid m) (hb : b < m.co.length) (h : At m b a P x f) (hne : x ≠ b) (hnx : nx = nextN m x) (he : e < nx.length)
    (h2 : ∀ i (_ : i < e) (hi2 : i < nx.length), brP m b x nx[i] = false) (h1 : brP m b x nx[e] = true) : ∃ f', At m b a (P ++ [x]) nx[e] f' ∧ 0 ≤ finV m b nx[e] ∧ finV m b nx[e] < finV m b x := by
  subst hnx
  obtain ⟨f', g1, g2⟩ := At.step V hb h hne he h1 (fun i hi => h2 i hi (by omega))
  exact ⟨f', g1, g1.lo, g2⟩
theorem brNo {m : Mp} {b x e : Nat} {nx : List Nat} (he : e < nx.length) (h2 : ∀ i (_ : i < e) (hi2 : i < nx.length), brP m b x nx[i] = false) (h1 : brP m b x nx[e] = false) :
    ∀ i (_ : i < e + 1) (hi2 : i < nx.length), brP m b x nx[i] = false := by
  intro i hi hi2
  by_cases h : i = e
  · subst h; exact h1
  · exact h2 i (by omega) hi2
set_option maxRecDepth 100000 in
set_option maxHeartbeats 1000000 in
theorem bestRoute_any {m : Mp} {v : Value} {a b : Nat} {w : World} (hv : MapIn w m v) (V : Valid m) (ha : a < m.co.length) (hb : b < m.co.length) (ho : 0 < coA m a) (hab : 0 ≤ finV m b a) :
    Calls Try.prog 86 #[v, .int .i64 (a : Int), .int .i64 (b : Int)] w fun e w' => ∃ A cp, e = .returned (.slice A (brF m b 1440 a).length cp) ∧ w'.ownsRow w.heap.size 3 1 (.slice A (brF m b 1440 a).length cp) (brF m b 1440 a).length (ints (cast (brF m b 1440 a))) ∧ Below w.heap.size w w' := by
  have hv' := hv
  obtain ⟨A, n, cp, B, k, d, rfl, h1, h2, h3, h4⟩ := hv
  have K := Blk.new w 28 [.int .i64 m.wd, .int .i64 m.ht, .slice A n cp, .slice B k d]
  have G : Below w.heap.size w (w.alloc (.cells #[.int .i64 m.wd, .int .i64 m.ht, .slice A n cp, .slice B k d] 28)) := (by repeat (first | exact Below.refl _ _ | refine below_drewN ?_ _ | refine Below.drew ?_ | refine Below.alloc ?_ (by first | omega | (simp; done) | (simp; omega)) _ | refine Below.setCell ?_ (by first | omega | (simp; done) | (simp; omega)) _))
  obtain ⟨i0, hi0, hz0, hz1, hz2⟩ := info_parts int_info
  have H0 := At.start V hb ha ho hab
  have hfl := (fin_inv V hb).len
  have HFL := Lib.hid hfl
  clear hfl
  go_enter Try.func86, Try.ntmps86
  go_wp2_with fail
  refine (timesTo_any (m := m) (hv'.on G) V hb).mono ?_
  rintro e w1 ⟨g, rfl, Q, hg, hb1⟩
  replace K := K.on hb1
  replace G := G.trans (hb1.mono G.size)
  clear hb1
  obtain ⟨k0, k1, k2, k3⟩ := blk4 K
  have ltK := K.lt
  have ltQ := Q.lt
  have hgw : w.heap.size < g := by have := hg; simp at this; omega
  go_wp2_with fail
  clear k0 k1 k2 k3
  go_loopw [1, 8] (fun x o wr => ∃ (P : List Nat) (z f : Nat), x = .int .i64 z ∧ Hid (At m b a P z f) ∧ wr.ownsRow (g + 1) 3 1 o (P.length + 1) (ints (cast (P ++ [z]))) ∧ Blk wr g 3 (ints (encL (fin m b))) ∧ Blk wr w.heap.size 28 [.int .i64 m.wd, .int .i64 m.ht, .slice A n cp, .slice B k d] ∧ Below w.heap.size w wr) (fun x o _ => (finV m b (intOf x).toNat).toNat)
  case atStart =>
    refine ⟨[], a, 1440, rfl, H0, ?_, Q.alloc _, K.alloc _, G.alloc G.size _⟩
    have := World.ownsRow_lit (base := g + 1) (size := 1) (e := 3) w1 #[.int .i64 (a : Int)] 1 (by omega) (by simp [maxLen]) rfl
    simpa [ints, cast] using this
  clear K G Q ltK ltQ
  case round =>
    obtain ⟨P, z, f, rfl, HAt, hown, Q, K, G⟩ := hrel
    by_cases hzb : z = b
    · have HZ := Lib.hid hzb
      have hE : (( (z : Int)) != (b : Int)) = false := by simp [hzb]
      have hE2 : (z : Int) = (b : Int) := by rw [hzb]
      clear hzb
      obtain ⟨A', c', rfl⟩ := own_form hown
      go_wp2_with fail
      go_ret
      have hR : brF m b 1440 a = P ++ [z] := by rw [HZ.out]; exact At.stop (f := f) (by have := HAt.out; rw [HZ.out] at this; exact this)
      rw [hR, show (P ++ [z]).length = P.length + 1 by simp]
      exact ⟨A', c', rfl, own_le hown (by omega), G⟩
    · have hE : (((z : Int)) != (b : Int)) = true := by simp; omega
      have hE2 : ¬ (z : Int) = (b : Int) := by omega
      have HNE := Lib.hid hzb
      obtain ⟨A', c', rfl⟩ := own_form hown
      have hzl := HAt.out.lt
      have hhi := finV_hi V hb hzl
      have hlo := HAt.out.lo
      obtain ⟨k0, k1, k2, k3⟩ := blk4 K
      have ltQ := Q.lt
      have ltK := K.lt
      clear hzb
      go_wp2_with fail
      refine (cellsNextTo_n (m := m) (hv'.on G) V hzl).mono ?_
      rintro e w2 ⟨A5, cp5, rfl, own5, hb5⟩
      clear k0 k1 k2 k3
      replace K := K.on hb5
      replace Q := Q.on hb5
      replace G := G.trans (hb5.mono G.size)
      have hown2 := own_below hown hb5
      have l5 := nextN_len V z
      have AP : ∀ bk, Value.ownBlock (.slice A5 (nextN m z).length cp5) = some bk → wr.heap.size ≤ bk := fun bk hbk => (own5.lt bk hbk).1
      clear hown hb5
      obtain ⟨nx, hnx⟩ : ∃ l, l = nextN m z := ⟨_, rfl⟩
      have HX := Lib.hid hnx
      rw [← hnx] at own5 l5 AP
      obtain ⟨k0, k1, k2, k3⟩ := blk4 K
      go_wp2_with fail
      rw [← hnx]
      clear hnx k0 k1 k2 k3
      go_loopw [1, 23] (fun x i wz => ∃ e : Nat, e ≤ nx.length ∧ i = .int .i64 e ∧ x = .int .i64 z ∧ Hid (∀ q (_ : q < e) (hq2 : q < nx.length), brP m b z nx[q] = false) ∧ Blk wz g 3 (ints (encL (fin m b))) ∧ Blk wz w.heap.size 28 [.int .i64 m.wd, .int .i64 m.ht, .slice A n cp, .slice B k d] ∧ wz.ownsRow wr.heap.size 3 1 (.slice A5 nx.length cp5) nx.length (ints (cast nx)) ∧ wz.ownsRow (g + 1) 3 1 (.slice A' (P.length + 1) c') (P.length + 1) (ints (cast (P ++ [z]))) ∧ Below w.heap.size w wz) (fun _ i _ => nx.length - (intOf i).toNat)
      case atStart => exact ⟨0, Nat.zero_le _, rfl, rfl, (show ∀ q (_ : q < 0) (hq2 : q < nx.length), brP m b z nx[q] = false from fun q hq => absurd hq (Nat.not_lt_zero q)), Q, K, own5, hown2, G⟩
      clear K G Q own5 hown2 ltK ltQ
      case round =>
        obtain ⟨e, he, rfl, rfl, HNO, Q, K, own5, hown, G⟩ := hrel
        by_cases hen : e < nx.length
        · obtain ⟨x5, o5, rfl, _, hx5⟩ := (Rd.of_own own5).int hen
          have ec : e < (cast nx).length := by rw [cast_len]; exact hen
          have c5 := hx5 e ec
          rw [show (cast nx)[e] = ((nx[e] : Nat) : Int) by simp [cast]] at c5
          have hmem : nx[e] ∈ nextN m z := by rw [← HX.out]; exact List.getElem_mem hen
          have hnk : nx[e] < m.co.length := (mem_nextN.1 hmem).1
          have hnl : nx[e] < (fin m b).length := by rw [HFL.out]; exact hnk
          have hzf : z < (fin m b).length := by rw [HFL.out]; exact hzl
          have sb := V.step_bd z nx[e]
          have ub := finV_hi V hb hnk
          have lb := finV_lo V hb hnk
          have EN := Lib.hid (encL_get hnl)
          have EZ := Lib.hid (encL_get hzf)
          have HBE := Lib.hid (brP_enc (x := z) (n := nx[e]) V hb hnk hlo hhi)
          have HBI := Lib.hid (show 0 ≤ finV m b nx[e] → (finV m b nx[e] + stepV m z nx[e] == finV m b z) = brP m b z nx[e] from brP_int)
          have HST := Lib.hid (At.step' V hb HAt.out HNE.out HX.out hen HNO.out)
          have HBN := Lib.hid (brNo (m := m) (b := b) (x := z) hen HNO.out)
          have hln : P.length + 1 ≤ 1441 := by have := HAt.out.len; omega
          have hzk := hzl
          clear hx5 hmem hnl hzf ec HNO
          generalize nx[e] = y at *
          obtain ⟨k0, k1, k2, k3⟩ := blk4 K
          have ue : enc (finV m b y) ≤ 1073741824 ∧ 0 ≤ enc (finV m b y) := by unfold enc; split <;> omega
          have p5 : IntKind.i64.wrap (enc (finV m b y) + stepV m z y) = enc (finV m b y) + stepV m z y := IntWalk.i64_in _ (by omega)
          rw [show at_ (fin m b) y = finV m b y from rfl] at EN
          rw [show at_ (fin m b) z = finV m b z from rfl] at EZ
          go_wp2_with fail
          refine wp_region_held_drew (S := fun w' => Blk w' w.heap.size 28 [.int .i64 m.wd, .int .i64 m.ht, .slice A n cp, .slice B k d] ∧ Blk w' g 3 (ints (encL (fin m b))) ∧ Below wr.heap.size wr w') (by kernel_rfl) ?_ (fun hHeld => ?_)
          · (try dsimp only)
            first | exact ⟨K.drew, Q.drew, (Below.refl _ _).drew⟩ | exact ⟨hHeld.1.on hb6, hHeld.2.1.on hb6, hHeld.2.2.trans (hb6.mono hHeld.2.2.size)⟩ | exact hHeld
          refine rgTake (i := 0) (d := 27) (v := ?_) rfl rfl (by kernel_rfl) (by kernel_rfl) (by kernel_rfl) (fun _ _ _ h => h) (by rfl) ?_ (by assumption) ?_
          rotate_left
          · ((intro w hSw); (try dsimp only at hSw); go_simp; (try with_reducible rfl))
          try simp only [Act.put, List.setIfInBounds_toArray, List.set_cons_zero, List.set_cons_succ]
          refine rgTake (i := 1) (d := 28) (v := ?_) rfl rfl (by kernel_rfl) (by kernel_rfl) (by kernel_rfl) (fun _ _ _ h => h) (by rfl) ?_ (by assumption) ?_
          rotate_left
          · ((intro w hSw); (try dsimp only at hSw); go_simp; (try with_reducible rfl))
          try simp only [Act.put, List.setIfInBounds_toArray, List.set_cons_zero, List.set_cons_succ]
          refine rgTake (i := 2) (d := 29) (v := ?_) rfl rfl (by kernel_rfl) (by kernel_rfl) (by kernel_rfl) (fun _ _ _ h => h) (by rfl) ?_ (by assumption) ?_
          rotate_left
          · ((intro w hSw); (try dsimp only at hSw); go_simp; (try with_reducible rfl))
          try simp only [Act.put, List.setIfInBounds_toArray, List.set_cons_zero, List.set_cons_succ]
          refine rgTake (i := 3) (d := 30) (v := ?_) rfl rfl (by kernel_rfl) (by kernel_rfl) (by kernel_rfl) (fun _ _ _ h => h) (by rfl) ?_ (by assumption) ?_
          rotate_left
          · ((intro w hSw); (try dsimp only at hSw); (obtain ⟨z0, z1, z2, z3⟩ := blk4 hSw.1; have zc := (hSw.2.1.cell y).trans EN.out; have zd := (hSw.2.1.cell z).trans EZ.out); go_simp; (try with_reducible rfl))
          try simp only [Act.put, List.setIfInBounds_toArray, List.set_cons_zero, List.set_cons_succ]
          refine rgTake (i := 4) (d := 31) (v := ?_) rfl rfl (by kernel_rfl) (by kernel_rfl) (by kernel_rfl) (fun _ _ _ h => h) (by rfl) ?_ (by assumption) ?_
          rotate_left
          · ((intro w hSw); (try dsimp only at hSw); (obtain ⟨z0, z1, z2, z3⟩ := blk4 hSw.1; have zc := (hSw.2.1.cell y).trans EN.out; have zd := (hSw.2.1.cell z).trans EZ.out); go_simp; (try with_reducible rfl))
          try simp only [Act.put, List.setIfInBounds_toArray, List.set_cons_zero, List.set_cons_succ]
          refine rgTake (i := 5) (d := 32) (v := ?_) rfl rfl (by kernel_rfl) (by kernel_rfl) (by kernel_rfl) (fun _ _ _ h => h) (by rfl) ?_ (by assumption) ?_
          rotate_left
          · ((intro w hSw); (try dsimp only at hSw); go_simp; (try with_reducible rfl))
          try simp only [Act.put, List.setIfInBounds_toArray, List.set_cons_zero, List.set_cons_succ]
          refine rgTake (i := 6) (d := 33) (v := ?_) rfl rfl (by kernel_rfl) (by kernel_rfl) (by kernel_rfl) (fun _ _ _ h => h) (by rfl) ?_ (by assumption) ?_
          rotate_left
          · ((intro w hSw); (try dsimp only at hSw); go_simp; (try with_reducible rfl))
          try simp only [Act.put, List.setIfInBounds_toArray, List.set_cons_zero, List.set_cons_succ]
          refine rgTake (i := 9) (d := 36) (v := ?_) rfl rfl (by kernel_rfl) (by kernel_rfl) (by kernel_rfl) (fun _ _ _ h => h) (by rfl) ?_ (by assumption) ?_
          rotate_left
          · ((intro w hSw); (try dsimp only at hSw); go_simp; (try with_reducible rfl))
          try simp only [Act.put, List.setIfInBounds_toArray, List.set_cons_zero, List.set_cons_succ]
          refine rgTake (i := 10) (d := 37) (v := ?_) rfl rfl (by kernel_rfl) (by kernel_rfl) (by kernel_rfl) (fun _ _ _ h => h) (by rfl) ?_ (by assumption) ?_
          rotate_left
          · ((intro w hSw); (try dsimp only at hSw); go_simp; (try with_reducible rfl))
          try simp only [Act.put, List.setIfInBounds_toArray, List.set_cons_zero, List.set_cons_succ]
          refine rgTake (i := 11) (d := 38) (v := ?_) rfl rfl (by kernel_rfl) (by kernel_rfl) (by kernel_rfl) (fun _ _ _ h => h) (by rfl) ?_ (by assumption) ?_
          rotate_left
          · ((intro w hSw); (try dsimp only at hSw); go_simp; (try with_reducible rfl))
          try simp only [Act.put, List.setIfInBounds_toArray, List.set_cons_zero, List.set_cons_succ]
          refine rgTake (i := 12) (d := 39) (v := ?_) rfl rfl (by kernel_rfl) (by kernel_rfl) (by kernel_rfl) (fun _ _ _ h => h) (by rfl) ?_ (by assumption) ?_
          rotate_left
          · ((intro w hSw); (try dsimp only at hSw); (obtain ⟨z0, z1, z2, z3⟩ := blk4 hSw.1; have zc := (hSw.2.1.cell y).trans EN.out; have zd := (hSw.2.1.cell z).trans EZ.out); go_simp; (try with_reducible rfl))
          try simp only [Act.put, List.setIfInBounds_toArray, List.set_cons_zero, List.set_cons_succ]
          refine wpAnyH_ready (rs := [7]) (by kernel_rfl) (by simp) ?_
          refine AllReadyH.cons rfl (fun K hK => ?_) AllReadyH.nil
          go_simp
          refine (stepTime_any (m := m) (hv'.on (G.trans (hHeld.2.2.mono G.size))) V (by omega) (by omega) (by omega) (by omega)).mono ?_; rintro e wy ⟨rfl, hb6⟩
          go_wp2_with fail
          refine hK.out _ _ ?_ (fun hHeld => ?_)
          · (try dsimp only)
            first | exact ⟨K.drew, Q.drew, (Below.refl _ _).drew⟩ | exact ⟨hHeld.1.on hb6, hHeld.2.1.on hb6, hHeld.2.2.trans (hb6.mono hHeld.2.2.size)⟩ | exact hHeld
          clear hK K
          try simp only [Act.put, List.setIfInBounds_toArray, List.set_cons_zero, List.set_cons_succ]
          refine rgTake (i := 8) (d := 35) (v := ?_) rfl rfl (by kernel_rfl) (by kernel_rfl) (by kernel_rfl) (fun _ _ _ h => h) (by rfl) ?_ (by assumption) ?_
          rotate_left
          · ((intro w hSw); (try dsimp only at hSw); go_simp; (try with_reducible rfl))
          try simp only [Act.put, List.setIfInBounds_toArray, List.set_cons_zero, List.set_cons_succ]
          refine rgTake (i := 13) (d := 40) (v := ?_) rfl rfl (by kernel_rfl) (by kernel_rfl) (by kernel_rfl) (fun _ _ _ h => h) (by rfl) ?_ (by assumption) ?_
          rotate_left
          · ((intro w hSw); (try dsimp only at hSw); go_simp; (try with_reducible rfl))
          try simp only [Act.put, List.setIfInBounds_toArray, List.set_cons_zero, List.set_cons_succ]
          refine wpAnyH_done (by kernel_rfl) ?_ _
          replace K := hHeld.1
          replace Q := hHeld.2.1
          replace G := G.trans (hHeld.2.2.mono G.size)
          replace own5 := own_below own5 hHeld.2.2
          replace hown := own_below hown hHeld.2.2
          clear hHeld
          clear p5 ue
          cases hbp : brP m b z y
          · have hte : (enc (finV m b y) + stepV m z y == enc (finV m b z)) = false := by rw [HBE.out, hbp]
            have HN9 := Lib.hid (HBN.out hbp)
            clear hbp HST HBN HBE HBI
            go_wp2_with fail
            go_roundw
            case rel => exact ⟨e + 1, by omega, by go_num, rfl, HN9, Q, K, own5, hown, G⟩
            case measure => simp [intOf]; omega
          · have hte : (enc (finV m b y) + stepV m z y == enc (finV m b z)) = true := by rw [HBE.out, hbp]
            obtain ⟨f', hA', m1, m2⟩ := HST.out hbp
            have HA' := Lib.hid hA'
            clear hA' hbp HST HBN HBE HBI
            have ltQ := Q.lt
            have ltK := K.lt
            go_wp2_with (at_builtin; refine wpList_append_own _ rfl _ _ 22 rfl (g + 1) 3 i0 (.int .i64 0) 1 8 Try.underlying22 hi0 hz0 hz1 hz2 rfl (by decide) _ _ _ rfl (hown.alloc _) ⟨wy.heap.size, 0, none⟩ 1 1 [.int .i64 ((y : Int))] rfl rfl ?c1 ?c2 ?c3 ?c4 ?c5 ?_)
            case c1 => exact cell_one_new (wy) _ _
            case c2 => intro u hu; simp at hu; subst hu; rfl
            case c3 => simp only [maxLen]; omega
            case c4 => omega
            case c5 => simp; omega
            intro v9 w9 own1 grow1 _
            have bel1 : Below w.heap.size w w9 := (Below.alloc (G) (by have := (G).size; omega) _).grown grow1 (by have := (G).size; simp; omega) (fun j hj => by have := (hown.lt j hj).1; omega)
            have e1 : ints (cast (P ++ [z])) ++ [Value.int .i64 ((y : Int))] = ints (cast (P ++ [z]) ++ [(y : Int)]) := by simp [ints]
            rw [e1] at own1
            clear e1
            rw [cast_snoc] at own1
            have K9 := K.alloc (.cells #[.int .i64 (y : Int)] 3) |>.grown grow1 (by intro h; have := (hown.lt _ h.symm).1; omega)
            have Q9 := Q.alloc (.cells #[.int .i64 (y : Int)] 3) |>.grown grow1 (by intro h; have := (hown.lt _ h.symm).1; omega)
            clear hown K Q grow1 G
            go_wp2_with fail
            go_roundw
            case rel => exact ⟨P ++ [z], y, f', rfl, HA', by rw [show (P ++ [z]).length + 1 = P.length + 1 + 1 by simp]; exact own1, Q9, K9, bel1⟩
            case measure => simp [intOf]; omega
        · exfalso
          have hee : e = nx.length := by omega
          subst hee
          exact brNext_has V hb hzl HAt.out.op hlo HNE.out (by rw [← HX.out]; exact fun i hi => HNO.out i hi hi)
set_option maxRecDepth 100000 in
set_option maxHeartbeats 1000000 in
theorem l4Best_any {m : Mp} {v : Value} {a b : Nat} {w : World} (hv : MapIn w m v) (V : Valid m) (ha : a < m.co.length) (hb : b < m.co.length) (ho : 0 < coA m a) (hab : 0 ≤ finV m b a) :
    Calls Try.prog 85 #[v, .int .i64 (a : Int), .int .i64 (b : Int)] w fun e w' => ∃ A cp, e = .returned (.slice A (brF m b 1440 a).length cp) ∧ w'.ownsRow w.heap.size 3 1 (.slice A (brF m b 1440 a).length cp) (brF m b 1440 a).length (ints (cast (brF m b 1440 a))) ∧ Below w.heap.size w w' := by
  have hv' := hv
  obtain ⟨A, n, cp, B, k, d, rfl, h1, h2, h3, h4⟩ := hv
  have K := Blk.new w 28 [.int .i64 m.wd, .int .i64 m.ht, .slice A n cp, .slice B k d]
  have G : Below w.heap.size w (w.alloc (.cells #[.int .i64 m.wd, .int .i64 m.ht, .slice A n cp, .slice B k d] 28)) := (by repeat (first | exact Below.refl _ _ | refine below_drewN ?_ _ | refine Below.drew ?_ | refine Below.alloc ?_ (by first | omega | (simp; done) | (simp; omega)) _ | refine Below.setCell ?_ (by first | omega | (simp; done) | (simp; omega)) _))
  obtain ⟨i0, hi0, hz0, hz1, hz2⟩ := info_parts int_info
  have H0 := At.start V hb ha ho hab
  have hfl := (fin_inv V hb).len
  have HFL := Lib.hid hfl
  clear hfl
  go_enter Try.func85, Try.ntmps85
  go_wp2_with fail
  refine (l4To_any (m := m) (hv'.on G) V hb).mono ?_
  rintro e w1 ⟨g, gc, ex, rfl, Q, hg, hb1⟩
  replace K := K.on hb1
  replace G := G.trans (hb1.mono G.size)
  clear hb1
  obtain ⟨k0, k1, k2, k3⟩ := blk4 K
  have ltK := K.lt
  have ltQ := Q.lt
  have hgw : w.heap.size < g := by have := hg; simp at this; omega
  go_wp2_with fail
  clear k0 k1 k2 k3
  go_loopw [8, 9] (fun o x wr => ∃ (P : List Nat) (z f : Nat), x = .int .i64 z ∧ Hid (At m b a P z f) ∧ wr.ownsRow (g + 1) 3 1 o (P.length + 1) (ints (cast (P ++ [z]))) ∧ Blk wr g 3 (ints (fin m b) ++ ex) ∧ Blk wr w.heap.size 28 [.int .i64 m.wd, .int .i64 m.ht, .slice A n cp, .slice B k d] ∧ Below w.heap.size w wr) (fun o x _ => (finV m b (intOf x).toNat).toNat)
  case atStart =>
    refine ⟨[], a, 1440, rfl, H0, ?_, Q.alloc _, K.alloc _, G.alloc G.size _⟩
    have := World.ownsRow_lit (base := g + 1) (size := 1) (e := 3) w1 #[.int .i64 (a : Int)] 1 (by omega) (by simp [maxLen]) rfl
    simpa [ints, cast] using this
  clear K G Q ltK ltQ
  case round =>
    obtain ⟨P, z, f, rfl, HAt, hown, Q, K, G⟩ := hrel
    by_cases hzb : z = b
    · have HZ := Lib.hid hzb
      have hE : (( (z : Int)) != (b : Int)) = false := by simp [hzb]
      have hE2 : (z : Int) = (b : Int) := by rw [hzb]
      clear hzb
      obtain ⟨A', c', rfl⟩ := own_form hown
      go_wp2_with fail
      go_ret
      have hR : brF m b 1440 a = P ++ [z] := by rw [HZ.out]; exact At.stop (f := f) (by have := HAt.out; rw [HZ.out] at this; exact this)
      rw [hR, show (P ++ [z]).length = P.length + 1 by simp]
      exact ⟨A', c', rfl, own_le hown (by omega), G⟩
    · have hE : (((z : Int)) != (b : Int)) = true := by simp; omega
      have hE2 : ¬ (z : Int) = (b : Int) := by omega
      have HNE := Lib.hid hzb
      obtain ⟨A', c', rfl⟩ := own_form hown
      have hzl := HAt.out.lt
      have hhi := finV_hi V hb hzl
      have hlo := HAt.out.lo
      obtain ⟨k0, k1, k2, k3⟩ := blk4 K
      have ltQ := Q.lt
      have ltK := K.lt
      clear hzb
      go_wp2_with fail
      refine (l2Next_n (m := m) (hv'.on G) V hzl).mono ?_
      rintro e w2 ⟨A5, cp5, rfl, own5, hb5⟩
      clear k0 k1 k2 k3
      replace K := K.on hb5
      replace Q := Q.on hb5
      replace G := G.trans (hb5.mono G.size)
      have hown2 := own_below hown hb5
      have l5 := nextN_len V z
      have AP : ∀ bk, Value.ownBlock (.slice A5 (nextN m z).length cp5) = some bk → wr.heap.size ≤ bk := fun bk hbk => (own5.lt bk hbk).1
      clear hown hb5
      obtain ⟨nx, hnx⟩ : ∃ l, l = nextN m z := ⟨_, rfl⟩
      have HX := Lib.hid hnx
      rw [← hnx] at own5 l5 AP
      obtain ⟨k0, k1, k2, k3⟩ := blk4 K
      go_wp2_with fail
      rw [← hnx]
      clear hnx k0 k1 k2 k3
      go_loopw [9, 11] (fun x i wz => ∃ e : Nat, e ≤ nx.length ∧ i = .int .i64 e ∧ x = .int .i64 z ∧ Hid (∀ q (_ : q < e) (hq2 : q < nx.length), brP m b z nx[q] = false) ∧ Blk wz g 3 (ints (fin m b) ++ ex) ∧ Blk wz w.heap.size 28 [.int .i64 m.wd, .int .i64 m.ht, .slice A n cp, .slice B k d] ∧ wz.ownsRow wr.heap.size 3 1 (.slice A5 nx.length cp5) nx.length (ints (cast nx)) ∧ wz.ownsRow (g + 1) 3 1 (.slice A' (P.length + 1) c') (P.length + 1) (ints (cast (P ++ [z]))) ∧ Below w.heap.size w wz) (fun _ i _ => nx.length - (intOf i).toNat)
      case atStart => exact ⟨0, Nat.zero_le _, rfl, rfl, (show ∀ q (_ : q < 0) (hq2 : q < nx.length), brP m b z nx[q] = false from fun q hq => absurd hq (Nat.not_lt_zero q)), Q, K, own5, hown2, G⟩
      clear K G Q own5 hown2 ltK ltQ
      case round =>
        obtain ⟨e, he, rfl, rfl, HNO, Q, K, own5, hown, G⟩ := hrel
        by_cases hen : e < nx.length
        · obtain ⟨x5, o5, rfl, _, hx5⟩ := (Rd.of_own own5).int hen
          have ec : e < (cast nx).length := by rw [cast_len]; exact hen
          have c5 := hx5 e ec
          rw [show (cast nx)[e] = ((nx[e] : Nat) : Int) by simp [cast]] at c5
          have hmem : nx[e] ∈ nextN m z := by rw [← HX.out]; exact List.getElem_mem hen
          have hnk : nx[e] < m.co.length := (mem_nextN.1 hmem).1
          have hnl : nx[e] < (fin m b).length := by rw [HFL.out]; exact hnk
          have hzf : z < (fin m b).length := by rw [HFL.out]; exact hzl
          have sb := V.step_bd z nx[e]
          have ub := finV_hi V hb hnk
          have lb := finV_lo V hb hnk
          have EN := Lib.hid (ints_app_get (ex := ex) hnl)
          have EZ := Lib.hid (ints_app_get (ex := ex) hzf)
          have HBE := Lib.hid (brP_enc (x := z) (n := nx[e]) V hb hnk hlo hhi)
          have HBI := Lib.hid (show 0 ≤ finV m b nx[e] → (finV m b nx[e] + stepV m z nx[e] == finV m b z) = brP m b z nx[e] from brP_int)
          have HST := Lib.hid (At.step' V hb HAt.out HNE.out HX.out hen HNO.out)
          have HBN := Lib.hid (brNo (m := m) (b := b) (x := z) hen HNO.out)
          have hln : P.length + 1 ≤ 1441 := by have := HAt.out.len; omega
          have hzk := hzl
          clear hx5 hmem hnl hzf ec HNO
          generalize nx[e] = y at *
          obtain ⟨k0, k1, k2, k3⟩ := blk4 K
          rw [show at_ (fin m b) y = finV m b y from rfl] at EN
          rw [show at_ (fin m b) z = finV m b z from rfl] at EZ
          by_cases hng : 0 ≤ finV m b y
          · have p5 : IntKind.i64.wrap (finV m b y + stepV m z y) = finV m b y + stepV m z y := IntWalk.i64_in _ (by omega)
            go_wp2_with fail
            refine wp_region_held_drew (S := fun w' => Blk w' w.heap.size 28 [.int .i64 m.wd, .int .i64 m.ht, .slice A n cp, .slice B k d] ∧ Blk w' g 3 (ints (fin m b) ++ ex) ∧ Below wr.heap.size wr w') (by kernel_rfl) ?_ (fun hHeld => ?_)
            · (try dsimp only)
              first | exact ⟨K.drew, Q.drew, (Below.refl _ _).drew⟩ | exact ⟨hHeld.1.on hb6, hHeld.2.1.on hb6, hHeld.2.2.trans (hb6.mono hHeld.2.2.size)⟩ | exact hHeld
            refine rgTake (i := 0) (d := 35) (v := ?_) rfl rfl (by kernel_rfl) (by kernel_rfl) (by kernel_rfl) (fun _ _ _ h => h) (by rfl) ?_ (by assumption) ?_
            rotate_left
            · ((intro w hSw); (try dsimp only at hSw); go_simp; (try with_reducible rfl))
            try simp only [Act.put, List.setIfInBounds_toArray, List.set_cons_zero, List.set_cons_succ]
            refine rgTake (i := 1) (d := 36) (v := ?_) rfl rfl (by kernel_rfl) (by kernel_rfl) (by kernel_rfl) (fun _ _ _ h => h) (by rfl) ?_ (by assumption) ?_
            rotate_left
            · ((intro w hSw); (try dsimp only at hSw); go_simp; (try with_reducible rfl))
            try simp only [Act.put, List.setIfInBounds_toArray, List.set_cons_zero, List.set_cons_succ]
            refine rgTake (i := 2) (d := 37) (v := ?_) rfl rfl (by kernel_rfl) (by kernel_rfl) (by kernel_rfl) (fun _ _ _ h => h) (by rfl) ?_ (by assumption) ?_
            rotate_left
            · ((intro w hSw); (try dsimp only at hSw); go_simp; (try with_reducible rfl))
            try simp only [Act.put, List.setIfInBounds_toArray, List.set_cons_zero, List.set_cons_succ]
            refine rgTake (i := 3) (d := 38) (v := ?_) rfl rfl (by kernel_rfl) (by kernel_rfl) (by kernel_rfl) (fun _ _ _ h => h) (by rfl) ?_ (by assumption) ?_
            rotate_left
            · ((intro w hSw); (try dsimp only at hSw); (obtain ⟨z0, z1, z2, z3⟩ := blk4 hSw.1; have zc := (hSw.2.1.cell y).trans EN.out; have zd := (hSw.2.1.cell z).trans EZ.out); go_simp; (try with_reducible rfl))
            try simp only [Act.put, List.setIfInBounds_toArray, List.set_cons_zero, List.set_cons_succ]
            refine rgTake (i := 4) (d := 39) (v := ?_) rfl rfl (by kernel_rfl) (by kernel_rfl) (by kernel_rfl) (fun _ _ _ h => h) (by rfl) ?_ (by assumption) ?_
            rotate_left
            · ((intro w hSw); (try dsimp only at hSw); go_simp; (try with_reducible rfl))
            try simp only [Act.put, List.setIfInBounds_toArray, List.set_cons_zero, List.set_cons_succ]
            refine rgTake (i := 5) (d := 40) (v := ?_) rfl rfl (by kernel_rfl) (by kernel_rfl) (by kernel_rfl) (fun _ _ _ h => h) (by rfl) ?_ (by assumption) ?_
            rotate_left
            · ((intro w hSw); (try dsimp only at hSw); go_simp; (try with_reducible rfl))
            try simp only [Act.put, List.setIfInBounds_toArray, List.set_cons_zero, List.set_cons_succ]
            refine rgTake (i := 6) (d := 41) (v := ?_) rfl rfl (by kernel_rfl) (by kernel_rfl) (by kernel_rfl) (fun _ _ _ h => h) (by rfl) ?_ (by assumption) ?_
            rotate_left
            · ((intro w hSw); (try dsimp only at hSw); go_simp; (try with_reducible rfl))
            try simp only [Act.put, List.setIfInBounds_toArray, List.set_cons_zero, List.set_cons_succ]
            refine rgTake (i := 7) (d := 42) (v := ?_) rfl rfl (by kernel_rfl) (by kernel_rfl) (by kernel_rfl) (fun _ _ _ h => h) (by rfl) ?_ (by assumption) ?_
            rotate_left
            · ((intro w hSw); (try dsimp only at hSw); go_simp; (try with_reducible rfl))
            try simp only [Act.put, List.setIfInBounds_toArray, List.set_cons_zero, List.set_cons_succ]
            refine rgTake (i := 8) (d := 43) (v := ?_) rfl rfl (by kernel_rfl) (by kernel_rfl) (by kernel_rfl) (fun _ _ _ h => h) (by rfl) ?_ (by assumption) ?_
            rotate_left
            · ((intro w hSw); (try dsimp only at hSw); go_simp; (try with_reducible rfl))
            try simp only [Act.put, List.setIfInBounds_toArray, List.set_cons_zero, List.set_cons_succ]
            refine rgTake (i := 9) (d := 44) (v := ?_) rfl rfl (by kernel_rfl) (by kernel_rfl) (by kernel_rfl) (fun _ _ _ h => h) (by rfl) ?_ (by assumption) ?_
            rotate_left
            · ((intro w hSw); (try dsimp only at hSw); (obtain ⟨z0, z1, z2, z3⟩ := blk4 hSw.1; have zc := (hSw.2.1.cell y).trans EN.out; have zd := (hSw.2.1.cell z).trans EZ.out); go_simp; (try with_reducible rfl))
            try simp only [Act.put, List.setIfInBounds_toArray, List.set_cons_zero, List.set_cons_succ]
            refine rgTake (i := 10) (d := 45) (v := ?_) rfl rfl (by kernel_rfl) (by kernel_rfl) (by kernel_rfl) (fun _ _ _ h => h) (by rfl) ?_ (by assumption) ?_
            rotate_left
            · ((intro w hSw); (try dsimp only at hSw); (obtain ⟨z0, z1, z2, z3⟩ := blk4 hSw.1; have zc := (hSw.2.1.cell y).trans EN.out; have zd := (hSw.2.1.cell z).trans EZ.out); go_simp; (try with_reducible rfl))
            try simp only [Act.put, List.setIfInBounds_toArray, List.set_cons_zero, List.set_cons_succ]
            refine rgTake (i := 11) (d := 46) (v := ?_) rfl rfl (by kernel_rfl) (by kernel_rfl) (by kernel_rfl) (fun _ _ _ h => h) (by rfl) ?_ (by assumption) ?_
            rotate_left
            · ((intro w hSw); (try dsimp only at hSw); go_simp; (try with_reducible rfl))
            try simp only [Act.put, List.setIfInBounds_toArray, List.set_cons_zero, List.set_cons_succ]
            refine rgTake (i := 12) (d := 47) (v := ?_) rfl rfl (by kernel_rfl) (by kernel_rfl) (by kernel_rfl) (fun _ _ _ h => h) (by rfl) ?_ (by assumption) ?_
            rotate_left
            · ((intro w hSw); (try dsimp only at hSw); go_simp; (try with_reducible rfl))
            try simp only [Act.put, List.setIfInBounds_toArray, List.set_cons_zero, List.set_cons_succ]
            refine rgTake (i := 15) (d := 50) (v := ?_) rfl rfl (by kernel_rfl) (by kernel_rfl) (by kernel_rfl) (fun _ _ _ h => h) (by rfl) ?_ (by assumption) ?_
            rotate_left
            · ((intro w hSw); (try dsimp only at hSw); go_simp; (try with_reducible rfl))
            try simp only [Act.put, List.setIfInBounds_toArray, List.set_cons_zero, List.set_cons_succ]
            refine rgTake (i := 16) (d := 51) (v := ?_) rfl rfl (by kernel_rfl) (by kernel_rfl) (by kernel_rfl) (fun _ _ _ h => h) (by rfl) ?_ (by assumption) ?_
            rotate_left
            · ((intro w hSw); (try dsimp only at hSw); go_simp; (try with_reducible rfl))
            try simp only [Act.put, List.setIfInBounds_toArray, List.set_cons_zero, List.set_cons_succ]
            refine rgTake (i := 17) (d := 52) (v := ?_) rfl rfl (by kernel_rfl) (by kernel_rfl) (by kernel_rfl) (fun _ _ _ h => h) (by rfl) ?_ (by assumption) ?_
            rotate_left
            · ((intro w hSw); (try dsimp only at hSw); go_simp; (try with_reducible rfl))
            try simp only [Act.put, List.setIfInBounds_toArray, List.set_cons_zero, List.set_cons_succ]
            refine rgTake (i := 18) (d := 53) (v := ?_) rfl rfl (by kernel_rfl) (by kernel_rfl) (by kernel_rfl) (fun _ _ _ h => h) (by rfl) ?_ (by assumption) ?_
            rotate_left
            · ((intro w hSw); (try dsimp only at hSw); (obtain ⟨z0, z1, z2, z3⟩ := blk4 hSw.1; have zc := (hSw.2.1.cell y).trans EN.out; have zd := (hSw.2.1.cell z).trans EZ.out); go_simp; (try with_reducible rfl))
            try simp only [Act.put, List.setIfInBounds_toArray, List.set_cons_zero, List.set_cons_succ]
            refine wpAnyH_ready (rs := [13]) (by kernel_rfl) (by simp) ?_
            refine AllReadyH.cons rfl (fun K hK => ?_) AllReadyH.nil
            go_simp
            refine (l2Step_any (m := m) (hv'.on (G.trans (hHeld.2.2.mono G.size))) V (by omega) (by omega) (by omega) (by omega)).mono ?_; rintro e wy ⟨rfl, hb6⟩
            go_wp2_with fail
            refine hK.out _ _ ?_ (fun hHeld => ?_)
            · (try dsimp only)
              first | exact ⟨K.drew, Q.drew, (Below.refl _ _).drew⟩ | exact ⟨hHeld.1.on hb6, hHeld.2.1.on hb6, hHeld.2.2.trans (hb6.mono hHeld.2.2.size)⟩ | exact hHeld
            clear hK K
            try simp only [Act.put, List.setIfInBounds_toArray, List.set_cons_zero, List.set_cons_succ]
            refine rgTake (i := 14) (d := 49) (v := ?_) rfl rfl (by kernel_rfl) (by kernel_rfl) (by kernel_rfl) (fun _ _ _ h => h) (by rfl) ?_ (by assumption) ?_
            rotate_left
            · ((intro w hSw); (try dsimp only at hSw); go_simp; (try with_reducible rfl))
            try simp only [Act.put, List.setIfInBounds_toArray, List.set_cons_zero, List.set_cons_succ]
            refine rgTake (i := 19) (d := 54) (v := ?_) rfl rfl (by kernel_rfl) (by kernel_rfl) (by kernel_rfl) (fun _ _ _ h => h) (by rfl) ?_ (by assumption) ?_
            rotate_left
            · ((intro w hSw); (try dsimp only at hSw); go_simp; (try with_reducible rfl))
            try simp only [Act.put, List.setIfInBounds_toArray, List.set_cons_zero, List.set_cons_succ]
            refine rgTake (i := 20) (d := 55) (v := ?_) rfl rfl (by kernel_rfl) (by kernel_rfl) (by kernel_rfl) (fun _ _ _ h => h) (by rfl) ?_ (by assumption) ?_
            rotate_left
            · ((intro w hSw); (try dsimp only at hSw); go_simp; (try with_reducible rfl))
            try simp only [Act.put, List.setIfInBounds_toArray, List.set_cons_zero, List.set_cons_succ]
            refine wpAnyH_done (by kernel_rfl) ?_ _
            replace K := hHeld.1
            replace Q := hHeld.2.1
            replace G := G.trans (hHeld.2.2.mono G.size)
            replace own5 := own_below own5 hHeld.2.2
            replace hown := own_below hown hHeld.2.2
            clear hHeld
            clear p5
            cases hbp : brP m b z y
            · have hte : (finV m b y + stepV m z y == finV m b z) = false := by rw [HBI.out hng, hbp]
              have HN9 := Lib.hid (HBN.out hbp)
              clear hbp HST HBN HBE HBI
              go_wp2_with fail
              go_roundw
              case rel => exact ⟨e + 1, by omega, by go_num, rfl, HN9, Q, K, own5, hown, G⟩
              case measure => simp [intOf]; omega
            · have hte : (finV m b y + stepV m z y == finV m b z) = true := by rw [HBI.out hng, hbp]
              obtain ⟨f', hA', m1, m2⟩ := HST.out hbp
              have HA' := Lib.hid hA'
              clear hA' hbp HST HBN HBE HBI
              have ltQ := Q.lt
              have ltK := K.lt
              go_wp2_with (at_builtin; refine wpList_append_own _ rfl _ _ 22 rfl (g + 1) 3 i0 (.int .i64 0) 1 8 Try.underlying22 hi0 hz0 hz1 hz2 rfl (by decide) _ _ _ rfl (hown.alloc _) ⟨wy.heap.size, 0, none⟩ 1 1 [.int .i64 ((y : Int))] rfl rfl ?c1 ?c2 ?c3 ?c4 ?c5 ?_)
              case c1 => exact cell_one_new (wy) _ _
              case c2 => intro u hu; simp at hu; subst hu; rfl
              case c3 => simp only [maxLen]; omega
              case c4 => omega
              case c5 => simp; omega
              intro v9 w9 own1 grow1 _
              have bel1 : Below w.heap.size w w9 := (Below.alloc (G) (by have := (G).size; omega) _).grown grow1 (by have := (G).size; simp; omega) (fun j hj => by have := (hown.lt j hj).1; omega)
              have e1 : ints (cast (P ++ [z])) ++ [Value.int .i64 ((y : Int))] = ints (cast (P ++ [z]) ++ [(y : Int)]) := by simp [ints]
              rw [e1] at own1
              clear e1
              rw [cast_snoc] at own1
              have K9 := K.alloc (.cells #[.int .i64 (y : Int)] 3) |>.grown grow1 (by intro h; have := (hown.lt _ h.symm).1; omega)
              have Q9 := Q.alloc (.cells #[.int .i64 (y : Int)] 3) |>.grown grow1 (by intro h; have := (hown.lt _ h.symm).1; omega)
              clear hown K Q grow1 G
              go_wp2_with fail
              go_roundw
              case rel => exact ⟨P ++ [z], y, f', rfl, HA', by rw [show (P ++ [z]).length + 1 = P.length + 1 + 1 by simp]; exact own1, Q9, K9, bel1⟩
              case measure => simp [intOf]; omega
          · have hbp : brP m b z y = false := by unfold brP; rw [show decide (0 ≤ finV m b y) = false by simpa using hng]; rfl
            have hnd : decide (0 ≤ finV m b y) = false := by simpa using hng
            go_wp2_with fail
            refine wp_region_held_drew (S := fun w' => Blk w' w.heap.size 28 [.int .i64 m.wd, .int .i64 m.ht, .slice A n cp, .slice B k d] ∧ Blk w' g 3 (ints (fin m b) ++ ex) ∧ Below wr.heap.size wr w') (by kernel_rfl) ?_ (fun hHeld => ?_)
            · (try dsimp only)
              first | exact ⟨K.drew, Q.drew, (Below.refl _ _).drew⟩ | exact ⟨hHeld.1.on hb6, hHeld.2.1.on hb6, hHeld.2.2.trans (hb6.mono hHeld.2.2.size)⟩ | exact hHeld
            refine rgTake (i := 0) (d := 35) (v := ?_) rfl rfl (by kernel_rfl) (by kernel_rfl) (by kernel_rfl) (fun _ _ _ h => h) (by rfl) ?_ (by assumption) ?_
            rotate_left
            · ((intro w hSw); (try dsimp only at hSw); go_simp; (try with_reducible rfl))
            try simp only [Act.put, List.setIfInBounds_toArray, List.set_cons_zero, List.set_cons_succ]
            refine rgTake (i := 1) (d := 36) (v := ?_) rfl rfl (by kernel_rfl) (by kernel_rfl) (by kernel_rfl) (fun _ _ _ h => h) (by rfl) ?_ (by assumption) ?_
            rotate_left
            · ((intro w hSw); (try dsimp only at hSw); go_simp; (try with_reducible rfl))
            try simp only [Act.put, List.setIfInBounds_toArray, List.set_cons_zero, List.set_cons_succ]
            refine rgTake (i := 2) (d := 37) (v := ?_) rfl rfl (by kernel_rfl) (by kernel_rfl) (by kernel_rfl) (fun _ _ _ h => h) (by rfl) ?_ (by assumption) ?_
            rotate_left
            · ((intro w hSw); (try dsimp only at hSw); go_simp; (try with_reducible rfl))
            try simp only [Act.put, List.setIfInBounds_toArray, List.set_cons_zero, List.set_cons_succ]
            refine rgTake (i := 3) (d := 38) (v := ?_) rfl rfl (by kernel_rfl) (by kernel_rfl) (by kernel_rfl) (fun _ _ _ h => h) (by rfl) ?_ (by assumption) ?_
            rotate_left
            · ((intro w hSw); (try dsimp only at hSw); (obtain ⟨z0, z1, z2, z3⟩ := blk4 hSw.1; have zc := (hSw.2.1.cell y).trans EN.out; have zd := (hSw.2.1.cell z).trans EZ.out); go_simp; (try with_reducible rfl))
            try simp only [Act.put, List.setIfInBounds_toArray, List.set_cons_zero, List.set_cons_succ]
            refine rgTake (i := 4) (d := 39) (v := ?_) rfl rfl (by kernel_rfl) (by kernel_rfl) (by kernel_rfl) (fun _ _ _ h => h) (by rfl) ?_ (by assumption) ?_
            rotate_left
            · ((intro w hSw); (try dsimp only at hSw); go_simp; (try with_reducible rfl))
            try simp only [Act.put, List.setIfInBounds_toArray, List.set_cons_zero, List.set_cons_succ]
            refine rgTake (i := 5) (d := 40) (v := ?_) rfl rfl (by kernel_rfl) (by kernel_rfl) (by kernel_rfl) (fun _ _ _ h => h) (by rfl) ?_ (by assumption) ?_
            rotate_left
            · ((intro w hSw); (try dsimp only at hSw); go_simp; (try with_reducible rfl))
            try simp only [Act.put, List.setIfInBounds_toArray, List.set_cons_zero, List.set_cons_succ]
            refine rgSkip (i := 6) (d := 41) rfl rfl (by kernel_rfl) (by kernel_rfl) (by kernel_rfl) (fun _ _ _ h => h) (by rfl) (by assumption) ?_
            try simp only [Act.put, List.setIfInBounds_toArray, List.set_cons_zero, List.set_cons_succ]
            refine rgSkip (i := 7) (d := 42) rfl rfl (by kernel_rfl) (by kernel_rfl) (by kernel_rfl) (fun _ _ _ h => h) (by rfl) (by assumption) ?_
            try simp only [Act.put, List.setIfInBounds_toArray, List.set_cons_zero, List.set_cons_succ]
            refine rgSkip (i := 8) (d := 43) rfl rfl (by kernel_rfl) (by kernel_rfl) (by kernel_rfl) (fun _ _ _ h => h) (by rfl) (by assumption) ?_
            try simp only [Act.put, List.setIfInBounds_toArray, List.set_cons_zero, List.set_cons_succ]
            refine rgSkip (i := 9) (d := 44) rfl rfl (by kernel_rfl) (by kernel_rfl) (by kernel_rfl) (fun _ _ _ h => h) (by rfl) (by assumption) ?_
            try simp only [Act.put, List.setIfInBounds_toArray, List.set_cons_zero, List.set_cons_succ]
            refine rgSkip (i := 10) (d := 45) rfl rfl (by kernel_rfl) (by kernel_rfl) (by kernel_rfl) (fun _ _ _ h => h) (by rfl) (by assumption) ?_
            try simp only [Act.put, List.setIfInBounds_toArray, List.set_cons_zero, List.set_cons_succ]
            refine rgSkip (i := 11) (d := 46) rfl rfl (by kernel_rfl) (by kernel_rfl) (by kernel_rfl) (fun _ _ _ h => h) (by rfl) (by assumption) ?_
            try simp only [Act.put, List.setIfInBounds_toArray, List.set_cons_zero, List.set_cons_succ]
            refine rgSkip (i := 12) (d := 47) rfl rfl (by kernel_rfl) (by kernel_rfl) (by kernel_rfl) (fun _ _ _ h => h) (by rfl) (by assumption) ?_
            try simp only [Act.put, List.setIfInBounds_toArray, List.set_cons_zero, List.set_cons_succ]
            refine rgSkip (i := 13) (d := 48) rfl rfl (by kernel_rfl) (by kernel_rfl) (by kernel_rfl) (fun _ _ _ h => h) (by rfl) (by assumption) ?_
            try simp only [Act.put, List.setIfInBounds_toArray, List.set_cons_zero, List.set_cons_succ]
            refine rgSkip (i := 14) (d := 49) rfl rfl (by kernel_rfl) (by kernel_rfl) (by kernel_rfl) (fun _ _ _ h => h) (by rfl) (by assumption) ?_
            try simp only [Act.put, List.setIfInBounds_toArray, List.set_cons_zero, List.set_cons_succ]
            refine rgSkip (i := 15) (d := 50) rfl rfl (by kernel_rfl) (by kernel_rfl) (by kernel_rfl) (fun _ _ _ h => h) (by rfl) (by assumption) ?_
            try simp only [Act.put, List.setIfInBounds_toArray, List.set_cons_zero, List.set_cons_succ]
            refine rgSkip (i := 16) (d := 51) rfl rfl (by kernel_rfl) (by kernel_rfl) (by kernel_rfl) (fun _ _ _ h => h) (by rfl) (by assumption) ?_
            try simp only [Act.put, List.setIfInBounds_toArray, List.set_cons_zero, List.set_cons_succ]
            refine rgSkip (i := 17) (d := 52) rfl rfl (by kernel_rfl) (by kernel_rfl) (by kernel_rfl) (fun _ _ _ h => h) (by rfl) (by assumption) ?_
            try simp only [Act.put, List.setIfInBounds_toArray, List.set_cons_zero, List.set_cons_succ]
            refine rgSkip (i := 18) (d := 53) rfl rfl (by kernel_rfl) (by kernel_rfl) (by kernel_rfl) (fun _ _ _ h => h) (by rfl) (by assumption) ?_
            try simp only [Act.put, List.setIfInBounds_toArray, List.set_cons_zero, List.set_cons_succ]
            refine rgSkip (i := 19) (d := 54) rfl rfl (by kernel_rfl) (by kernel_rfl) (by kernel_rfl) (fun _ _ _ h => h) (by rfl) (by assumption) ?_
            try simp only [Act.put, List.setIfInBounds_toArray, List.set_cons_zero, List.set_cons_succ]
            refine rgTake (i := 20) (d := 55) (v := ?_) rfl rfl (by kernel_rfl) (by kernel_rfl) (by kernel_rfl) (fun _ _ _ h => h) (by rfl) ?_ (by assumption) ?_
            rotate_left
            · ((intro w hSw); (try dsimp only at hSw); go_simp; (try with_reducible rfl))
            try simp only [Act.put, List.setIfInBounds_toArray, List.set_cons_zero, List.set_cons_succ]
            refine wpAnyH_done (by kernel_rfl) ?_ _
            replace K := hHeld.1
            replace Q := hHeld.2.1
            replace G := G.trans (hHeld.2.2.mono G.size)
            replace own5 := own_below own5 hHeld.2.2
            replace hown := own_below hown hHeld.2.2
            clear hHeld
            have HN9 := Lib.hid (HBN.out hbp)
            clear hbp HST HBN HBE HBI
            go_wp2_with fail
            go_roundw
            case rel => exact ⟨e + 1, by omega, by go_num, rfl, HN9, Q, K, own5, hown, G⟩
            case measure => simp [intOf]; omega
        · exfalso
          have hee : e = nx.length := by omega
          subst hee
          exact brNext_has V hb hzl HAt.out.op hlo HNE.out (by rw [← HX.out]; exact fun i hi => HNO.out i hi hi)
end Go.Proofs.Ytijmlagehdmfeaa
