/- Contracts: the clubs of a list of runners, each once, in ascending order: by the library's sort (the program's), by insertion (the reference's); ClubsOf. -/
import Derived.Test.YtmcldakdefeepaaCluP
import Derived.Test.YtmcldakdefeepaaShelf
import Derived.Test.YtmcldakdefeepaaApp
import Derived.Test.YtmcldakdefeepaaSwp
import Derived.Test.YtmcldakdefeepaaAged
import Derived.Sort.OwnSorted
import Derived.Deep.DeepCutAuto
namespace Go.Proofs.Ytmcldakdefeepaa
set_option linter.unusedVariables false
set_option linter.unusedSimpArgs false
open Go.RowKit
theorem grown_putRow {w : World} {g q : Nat} (d : Array Bs) : w.grownBy (Sort.putRow encStr (Sort.ahead w q) g 0 d) (some g) := by
  have h := grownBy_sorted (w := w) (g := g) (n := q) (os := #[]) d
  simpa using h
theorem sortS_any {A : Option Addr} {n c base : Nat} {zs : List Bs} {w : World} (h : w.ownsRow base 9 1 (.slice A n c) n (zs.map encStr)) (hn : n ≤ 1000) :
    Calls Try.prog 76 #[.slice A n c] w fun e w' => e = .returned (.tuple #[]) ∧ w'.ownsRow base 9 1 (.slice A n c) n ((zs.mergeSort fun x y => decide (x ≤ y)).map encStr) ∧ w.grownBy w' (Value.slice A n c).ownBlock := by
  have hl : zs.length = n := by simpa using h.1
  by_cases h0 : n = 0
  · subst h0
    refine (Try.slices_Sort_string_none A c w).mono fun e w' ⟨he, hw⟩ => ⟨he, ?_, ?_⟩
    · subst hw
      rw [List.eq_nil_of_length_eq_zero hl] at h ⊢
      simpa using h
    · subst hw; exact grown_refl _ _
  · rcases h.2 with ⟨_, e⟩ | ⟨g, cap, cur, hv, hb, hg, h1, h2, h3, h4⟩
    · exact absurd e h0
    · simp only [Value.slice.injEq] at hv
      obtain ⟨rfl, _, rfl⟩ := hv
      have hH : Sort.Holds encStr w g 0 zs.toArray := holds_of_block hg (by rw [hl]; simpa using h4)
      have hlt : g < w.heap.size := (Array.getElem?_eq_some_iff.1 hg).1
      subst hl
      refine (Try.slices_Sort_string g 0 c zs w hH hlt (by omega)).mono fun e w' ⟨he, k, os, hw⟩ => ⟨he, ?_, ?_⟩
      · rw [hw]
        exact ownsRow_sorted (ss := zs) (ts := zs.mergeSort fun x y => decide (x ≤ y)) (by simp) hb hg h1 h2 h3
      · rw [hw]; exact grownBy_sorted _
theorem compactS_any {A : Option Addr} {n c base : Nat} {zs : List Bs} {w : World} (h : w.ownsRow base 9 1 (.slice A n c) n (zs.map encStr)) (hn : n ≤ 1000) :
    Calls Try.prog 77 #[.slice A n c] w fun e w' => e = .returned (.slice A (Lib.compact zs).length c) ∧ w'.ownsRow base 9 1 (.slice A (Lib.compact zs).length c) (Lib.compact zs).length ((Lib.compact zs).map encStr) ∧ w.grownBy w' (Value.slice A n c).ownBlock := by
  have hl : zs.length = n := by simpa using h.1
  by_cases h0 : n = 0
  · subst h0
    obtain rfl := List.eq_nil_of_length_eq_zero hl
    refine (Try.slices_Compact_string_empty A c w).mono fun e w' ⟨he, hw⟩ => ⟨he, ?_, ?_⟩
    · subst hw; exact h
    · subst hw; exact grown_refl _ _
  · rcases h.2 with ⟨_, e⟩ | ⟨g, cap, cur, hv, hb, hg, h1, h2, h3, h4⟩
    · exact absurd e h0
    · simp only [Value.slice.injEq] at hv
      obtain ⟨rfl, _, rfl⟩ := hv
      have hH : Sort.Holds encStr w g 0 zs.toArray := holds_of_block hg (by rw [hl]; simpa using h4)
      subst hl
      have hcl := compact_len zs
      refine (Try.slices_Compact_string g 0 c zs w hH (by omega) h1).mono fun e w' ⟨he, q, hw⟩ => ⟨he, ?_, ?_⟩
      · rw [hw]
        have := Lib.ownsRow_putRow (q := q) (ys := Lib.compact zs ++ List.replicate (zs.length - (Lib.compact zs).length) []) (k := (Lib.compact zs).length) h (by simp; omega) hcl
        simpa using this
      · rw [hw]; exact grown_putRow _
def clubs (l : List Rn) : List ByteArray := l.map Rn.club
def cluB (l : List Rn) : List ByteArray := clubB (clubs l)
theorem clubs_len (l : List Rn) : (clubs l).length = l.length := by simp [clubs]
theorem cluB_len (l : List Rn) : (cluB l).length ≤ l.length := by
  have := clubB_len (clubs l)
  rwa [clubs_len] at this
theorem clubs_succ {l : List Rn} {k : Nat} (hk : k < l.length) : clubs (l.take (k + 1)) = clubs (l.take k) ++ [l[k].club] := by
  unfold clubs
  rw [List.take_succ_eq_append_getElem hk, List.map_append]; rfl
theorem cluB_succ {l : List Rn} {k : Nat} (hk : k < l.length) : cluB (l.take (k + 1)) = insB (cluB (l.take k)) l[k].club := by
  unfold cluB
  rw [clubs_succ hk, clubB_snoc]
theorem cluB_enc (l : List Rn) : (Lib.compact (((clubs l).map key).mergeSort fun x y => decide (x ≤ y))).map encStr = strs (cluB l) := by
  rw [← clubB_key, strs_enc]; rfl
theorem cluB_clen (l : List Rn) : (Lib.compact (((clubs l).map key).mergeSort fun x y => decide (x ≤ y))).length = (cluB l).length := by
  rw [← clubB_key, List.length_map]; rfl
theorem two_newT (w : World) (t1 t2 : TypeId) (c1 c2 : List Value) : Blk ((w.alloc (.cells c1.toArray t1)).alloc (.cells c2.toArray t2)) w.heap.size t1 c1 ∧ Blk ((w.alloc (.cells c1.toArray t1)).alloc (.cells c2.toArray t2)) (w.heap.size + 1) t2 c2 := by
  refine ⟨(Blk.new w t1 c1).alloc _, ?_⟩
  have h := Blk.new (w.alloc (.cells c1.toArray t1)) t2 c2
  rwa [show (w.alloc (.cells c1.toArray t1)).heap.size = w.heap.size + 1 by simp] at h
theorem Rd.takes {w : World} {B q j : Nat} {A : Option Addr} {xs : List ByteArray} (h : Rd w B 1 A q (strs xs)) (hj : j ≤ q) : Rd w B 1 A j (strs (xs.take j)) := by
  have hl : xs.length = q := by have := h.1; rw [strs_len] at this; omega
  refine ⟨by rw [strs_len, List.length_take, Nat.min_eq_left (by omega), Nat.mul_one], fun h0 => ?_⟩
  obtain ⟨b, off, e, hb, hc⟩ := h.2 (by omega)
  refine ⟨b, off, e, hb, fun k u hu => hc k u ?_⟩
  unfold strs at hu ⊢
  rw [List.map_take, List.getElem?_take] at hu
  split at hu
  · exact hu
  · cases hu
theorem Rd.drops {w : World} {B q j bl off : Nat} {xs : List ByteArray} (h : Rd w B 1 (some ⟨bl, off, none⟩) q (strs xs)) (hj : j ≤ q) : Rd w B 1 (some ⟨bl, off + j, none⟩) (q - j) (strs (xs.drop j)) := by
  have hl : xs.length = q := by have := h.1; rw [strs_len] at this; omega
  refine ⟨by rw [strs_len, List.length_drop, hl, Nat.mul_one], fun h0 => ?_⟩
  obtain ⟨b, o, e, hb, hc⟩ := h.2 (by omega)
  simp only [Option.some.injEq, Addr.mk.injEq, and_true] at e
  obtain ⟨rfl, rfl⟩ := e
  refine ⟨_, _, rfl, hb, fun k u hu => ?_⟩
  rw [Nat.add_assoc]
  refine hc (j + k) u ?_
  unfold strs at hu ⊢
  rw [List.map_drop, List.getElem?_drop] at hu
  exact hu
theorem Rd.drops0 {w : World} {B q j bl : Nat} {xs : List ByteArray} (h : Rd w B 1 (some ⟨bl, 0, none⟩) q (strs xs)) (hj : j ≤ q) : Rd w B 1 (some ⟨bl, j, none⟩) (q - j) (strs (xs.drop j)) := by
  have := h.drops hj
  rwa [Nat.zero_add] at this
theorem own_scell {w : World} {base n c g k : Nat} {xs : List ByteArray} (h : w.ownsRow base 9 1 (.slice (some ⟨g, 0, none⟩) n c) n (strs xs)) (hk : k < xs.length) : w.cell? ⟨g, k, none⟩ = some (.string xs[k]) := by
  have hl : xs.length = n := by have := h.1; rw [strs_len] at this; omega
  rw [h.cellAt k (by omega)]
  unfold strs
  rw [List.getElem?_map, List.getElem?_eq_getElem hk]; rfl
set_option maxRecDepth 100000 in
set_option maxHeartbeats 2000000 in
theorem clubsOf_any {R : Option Addr} {q cq : Nat} {l : List Rn} {w : World} (hR : Rd w w.heap.size 6 R q (rns l)) (hq : q ≤ 10) :
    Calls Try.prog 63 #[.slice R q cq] w fun e w' => ∃ A cp, e = .returned (.slice A (cluB l).length cp) ∧ w'.ownsRow w.heap.size 9 1 (.slice A (cluB l).length cp) (cluB l).length (strs (cluB l)) ∧ Below w.heap.size w w' := by
  have HX := Lib.hid hR.rlen
  have HE := Lib.hid (cluB_enc l)
  have HL := Lib.hid (cluB_clen l)
  obtain ⟨i0, hi0, hz0, hz1, hz2⟩ := info_parts string_info
  go_enter Try.func63, Try.ntmps63
  go_wp2_with fail
  go_loopw [3, 9] (fun o i wr => ∃ j : Nat, j ≤ q ∧ i = .int .i64 j ∧ (∃ A cp, o = .slice A j cp ∧ wr.ownsRow w.heap.size 9 1 (.slice A j cp) j (strs (clubs (l.take j)))) ∧ Below w.heap.size w wr) (fun _ i _ => q - (intOf i).toNat)
  case atStart =>
    refine ⟨0, Nat.zero_le _, rfl, ⟨_, 0, rfl, ?_⟩, (by repeat (first | exact Below.refl _ _ | refine below_drewN ?_ _ | refine Below.drew ?_ | refine Below.alloc ?_ (by first | omega | (simp; done) | (simp; omega)) _ | refine Below.setCell ?_ (by first | omega | (simp; done) | (simp; omega)) _))⟩
    exact World.ownsRow_lit (base := w.heap.size) (size := 1) (e := 9) w #[] 0 (Nat.le_refl _) (by simp) rfl
  case round =>
    obtain ⟨j, hj, rfl, ⟨A, cp, rfl, hown⟩, G⟩ := hrel
    by_cases hlt : j < q
    · obtain ⟨b, off, rfl, hbb, hca⟩ := hR.rn (show 0 < q by omega)
      have kx : j < l.length := by rw [HX.out]; exact hlt
      obtain ⟨c0, c1, c2, c3, c4, c5⟩ := (hca j kx).below G hbb
      have HS := Lib.hid (clubs_succ kx)
      generalize hr : l[j] = r at *
      clear hca hr
      have hV := (two_newT wr 30 9 r.cells [.string r.club]).2.rd (size := 1) (n := 1) rfl
      have own2 := (hown.alloc (.cells r.cells.toArray 30)).alloc (.cells #[.string r.club] 9)
      have G2 : Below w.heap.size w ((wr.alloc (.cells r.cells.toArray 30)).alloc (.cells #[.string r.club] 9)) := (G.alloc G.size _).alloc (Nat.le_trans G.size (by simp)) _
      have HV := Lib.hid hV
      clear hV
      go_wp2_with (at_builtin; refine wpList_append_rd rfl _ _ 53 rfl w.heap.size 9 i0 (.string ByteArray.empty) 1 16 Try.underlying53 hi0 hz0 hz1 hz2 rfl (by decide) _ _ _ rfl own2 _ _ _ _ _ rfl HV.out (fun u hu => by simp at hu; subst hu; rfl) ?c1 ?c2 ?c3 ?_)
      case c1 => simp only [maxLen]; omega
      case c2 => omega
      case c3 => exact G2.size
      intro A8 c8 w8 h8 own8 grow8 at8
      have bel := G2.grown grow8 G2.size (fun k hk => (hown.lt k hk).1)
      have e1 : strs (clubs (l.take j)) ++ [Value.string r.club] = strs (clubs (l.take (j + 1))) := by rw [HS.out]; simp [strs]
      rw [e1] at own8
      clear e1 hown own2 G G2 grow8 at8 c0 c1 c2 c3 c4 c5 HV
      go_wp2_with fail
      go_roundw
      case rel => exact ⟨j + 1, by omega, by go_num, ⟨A8, c8, rfl, own8⟩, bel⟩
      case measure => simp [intOf]; omega
    · have hjq : j = q := by omega
      have e2 : l.take j = l := List.take_of_length_le (by rw [HX.out]; omega)
      rw [e2, strs_enc] at hown
      subst hjq
      clear e2
      go_wp2_with fail
      refine (sortS_any hown (by omega)).mono ?_
      rintro e w2 ⟨rfl, own2, gr⟩
      have G2 := G.grown gr G.size (fun k hk => (hown.lt k hk).1)
      clear hown gr G
      go_wp2_with fail
      refine (compactS_any own2 (by omega)).mono ?_
      rintro e w3 ⟨rfl, own3, gr⟩
      have G3 := G2.grown gr G2.size (fun k hk => (own2.lt k hk).1)
      rw [HL.out, HE.out] at own3
      clear own2 gr G2
      rw [HL.out]
      go_wp2_with fail
      go_ret
      exact ⟨A, cp, rfl, own3, G3⟩
set_option maxRecDepth 100000 in
set_option maxHeartbeats 8000000 in
theorem l5Clubs_any {bl off q cq : Nat} {l : List Rn} {w : World} (hR : Rd w w.heap.size 6 (some ⟨bl, off, none⟩) q (rns l)) (hq : q ≤ 10) :
    Calls Try.prog 62 #[.slice (some ⟨bl, off, none⟩) q cq] w fun e w' => ∃ A cp, e = .returned (.slice A (cluB l).length cp) ∧ w'.ownsRow w.heap.size 9 1 (.slice A (cluB l).length cp) (cluB l).length (strs (cluB l)) ∧ Below w.heap.size w w' := by
  have HQ := Lib.hid hR.rlen
  obtain ⟨i0, hi0, hz0, hz1, hz2⟩ := info_parts string_info
  go_enter Try.func62, Try.ntmps62
  go_wp2_with fail
  go_loopw [3, 4] (fun o i wr => ∃ (j m : Nat) (X : List ByteArray) (A : Option Addr) (cp : Nat), j ≤ q ∧ i = .int .i64 j ∧ Hid (X = cluB (l.take j)) ∧ m ≤ j ∧ o = .slice A m cp ∧ wr.ownsRow w.heap.size 9 1 (.slice A m cp) m (strs X) ∧ Below w.heap.size w wr) (fun _ i _ => q - (intOf i).toNat)
  case atStart =>
    refine ⟨0, 0, [], _, 0, Nat.zero_le _, rfl, (show ([] : List ByteArray) = _ from rfl), Nat.le_refl _, rfl, ?_, (by repeat (first | exact Below.refl _ _ | refine below_drewN ?_ _ | refine Below.drew ?_ | refine Below.alloc ?_ (by first | omega | (simp; done) | (simp; omega)) _ | refine Below.setCell ?_ (by first | omega | (simp; done) | (simp; omega)) _))⟩
    exact World.ownsRow_lit (base := w.heap.size) (size := 1) (e := 9) w #[] 0 (Nat.le_refl _) (by simp) rfl
  case round =>
    obtain ⟨j, m, X, A, cp, hj, rfl, HXE, hmj, rfl, hown, G⟩ := hrel
    by_cases hlt : j < q
    · obtain ⟨bl', off', hbe, hbb, hca⟩ := hR.rn (show 0 < q by omega)
      simp only [Option.some.injEq, Addr.mk.injEq, and_true] at hbe
      obtain ⟨rfl, rfl⟩ := hbe
      have kx : j < l.length := by rw [HQ.out]; exact hlt
      have CK := Lib.hid (hca j kx)
      have HS := Lib.hid (cluB_succ kx)
      have HXL : Hid (X.length = m) := by show _ = _; have := hown.1; rw [strs_len] at this; omega
      obtain ⟨c, hc⟩ : ∃ c, c = l[j].club := ⟨_, rfl⟩
      have HC := Lib.hid hc
      have CC : Hid (∀ (W : World), Below w.heap.size w W → W.cell? ⟨bl, off + j * 6 + 2, none⟩ = some (.string c)) := by
        show ∀ _, _
        intro W hW
        rw [hc]
        exact (CK.out.below hW hbb).c2
      have HINS0 : Hid (∀ k, k ≤ m → (∀ (e : Nat) (he : e < X.length), e < k → ltB X[e] c = true) → (∀ (hk : k < X.length), ltB X[k] c = false) → ((∀ (hk : k < X.length), eqS X[k] c = false) → X.take k ++ c :: X.drop k = cluB (l.take (j + 1))) ∧ (∀ (hk : k < X.length), eqS X[k] c = true → X = cluB (l.take (j + 1)))) := by
        show ∀ _, _
        intro k hk h1 h2
        obtain ⟨a1, a2⟩ := insB_at X c k (by rw [HXL.out]; exact hk) h1 h2
        rw [HS.out, ← HC.out, ← HXE.out]
        exact ⟨fun h => (a1 h).symm, fun h h' => (a2 h h').symm⟩
      have hij : (j : Int) < (q : Int) := by omega
      have hmc := own_cap hown
      have hcp63 : cp ≤ 9223372036854775807 := by
        rcases hown.2 with ⟨hv, _⟩ | ⟨g', cap, cur, hv, _, _, _, h4, _⟩
        · simp only [Value.slice.injEq] at hv; omega
        · simp only [Value.slice.injEq] at hv
          obtain ⟨_, _, rfl⟩ := hv
          simp only [maxLen] at h4; omega
      clear hca hc HS HXE CK
      go_wp2_with fail
      go_loopw [5] (fun i wr => ∃ k : Nat, k ≤ m ∧ i = .int .i64 k ∧ Hid (∀ (e : Nat) (he : e < X.length), e < k → ltB X[e] c = true) ∧ wr.ownsRow w.heap.size 9 1 (.slice A m cp) m (strs X) ∧ Below w.heap.size w wr) (fun i _ => m - (intOf i).toNat)
      case atStart => exact ⟨0, Nat.zero_le _, rfl, (fun e _ h => absurd h (by omega)), hown, G⟩
      clear hown G
      case round =>
        obtain ⟨k, hk, rfl, HN, hown, G⟩ := hrel
        by_cases hkm : k < m
        · obtain ⟨g, rfl, hg, hglt⟩ := own_at hown (show 0 < m by omega)
          have kX : k < X.length := by rw [HXL.out]; exact hkm
          have hki : (k : Int) < (m : Int) := by omega
          have SC : Hid (∀ (W : World), Below wr.heap.size wr W → W.cell? ⟨g, k, none⟩ = some (.string X[k])) := by
            show ∀ _, _
            intro W hW
            exact (hW.cell (p := ⟨g, k, none⟩) hglt).trans (own_scell hown kX)
          cases hcmp : ltB X[k] c
          · have HCM := Lib.hid hcmp
            have hq8 : Op.bytesLess X[k].toList c.toList = false := hcmp
            go_upto_region 6 with (fail)
            refine wp_region_held_drew (S := fun w' => Below wr.heap.size wr w') (by kernel_rfl) ?_ (fun hHeld => ?_)
            · (try dsimp only)
              exact (Below.refl _ _).drew
            refine rgTake (i := 0) (d := 13) (v := ?_) rfl rfl (by kernel_rfl) (by kernel_rfl) (by kernel_rfl) (fun _ _ _ h => h) (by rfl) ?_ (by assumption) ?_
            rotate_left
            · ((intro w hSw); (try dsimp only at hSw); go_simp; (try with_reducible rfl))
            try simp only [Act.put, List.setIfInBounds_toArray, List.set_cons_zero, List.set_cons_succ]
            refine rgTake (i := 1) (d := 14) (v := ?_) rfl rfl (by kernel_rfl) (by kernel_rfl) (by kernel_rfl) (fun _ _ _ h => h) (by rfl) ?_ (by assumption) ?_
            rotate_left
            · ((intro w hSw); (try dsimp only at hSw); go_simp; (try with_reducible rfl))
            try simp only [Act.put, List.setIfInBounds_toArray, List.set_cons_zero, List.set_cons_succ]
            refine rgTake (i := 2) (d := 15) (v := ?_) rfl rfl (by kernel_rfl) (by kernel_rfl) (by kernel_rfl) (fun _ _ _ h => h) (by rfl) ?_ (by assumption) ?_
            rotate_left
            · ((intro w hSw); (try dsimp only at hSw); go_simp; (try with_reducible rfl))
            try simp only [Act.put, List.setIfInBounds_toArray, List.set_cons_zero, List.set_cons_succ]
            refine rgTake (i := 3) (d := 16) (v := ?_) rfl rfl (by kernel_rfl) (by kernel_rfl) (by kernel_rfl) (fun _ _ _ h => h) (by rfl) ?_ (by assumption) ?_
            rotate_left
            · ((intro w hSw); (try dsimp only at hSw); go_simp; (try with_reducible rfl))
            try simp only [Act.put, List.setIfInBounds_toArray, List.set_cons_zero, List.set_cons_succ]
            refine rgTake (i := 4) (d := 17) (v := ?_) rfl rfl (by kernel_rfl) (by kernel_rfl) (by kernel_rfl) (fun _ _ _ h => h) (by rfl) ?_ (by assumption) ?_
            rotate_left
            · ((intro w hSw); (try dsimp only at hSw); go_simp; (try with_reducible rfl))
            try simp only [Act.put, List.setIfInBounds_toArray, List.set_cons_zero, List.set_cons_succ]
            refine rgTake (i := 5) (d := 18) (v := ?_) rfl rfl (by kernel_rfl) (by kernel_rfl) (by kernel_rfl) (fun _ _ _ h => h) (by rfl) ?_ (by assumption) ?_
            rotate_left
            · ((intro w hSw); (try dsimp only at hSw); go_simp; (try with_reducible rfl))
            try simp only [Act.put, List.setIfInBounds_toArray, List.set_cons_zero, List.set_cons_succ]
            refine rgTake (i := 6) (d := 19) (v := ?_) rfl rfl (by kernel_rfl) (by kernel_rfl) (by kernel_rfl) (fun _ _ _ h => h) (by rfl) ?_ (by assumption) ?_
            rotate_left
            · ((intro w hSw); (try dsimp only at hSw); go_simp; (try with_reducible rfl))
            try simp only [Act.put, List.setIfInBounds_toArray, List.set_cons_zero, List.set_cons_succ]
            refine rgTake (i := 7) (d := 20) (v := ?_) rfl rfl (by kernel_rfl) (by kernel_rfl) (by kernel_rfl) (fun _ _ _ h => h) (by rfl) ?_ (by assumption) ?_
            rotate_left
            · ((intro w hSw); (try dsimp only at hSw); go_simp; (try with_reducible rfl))
            try simp only [Act.put, List.setIfInBounds_toArray, List.set_cons_zero, List.set_cons_succ]
            refine rgTake (i := 8) (d := 21) (v := ?_) rfl rfl (by kernel_rfl) (by kernel_rfl) (by kernel_rfl) (fun _ _ _ h => h) (by rfl) ?_ (by assumption) ?_
            rotate_left
            · ((intro w hSw); (try dsimp only at hSw); (have s0 := SC.out _ hSw; have s1 := CC.out _ (G.trans (hSw.mono G.size))); go_simp; (try with_reducible rfl))
            try simp only [Act.put, List.setIfInBounds_toArray, List.set_cons_zero, List.set_cons_succ]
            refine rgTake (i := 9) (d := 22) (v := ?_) rfl rfl (by kernel_rfl) (by kernel_rfl) (by kernel_rfl) (fun _ _ _ h => h) (by rfl) ?_ (by assumption) ?_
            rotate_left
            · ((intro w hSw); (try dsimp only at hSw); go_simp; (try with_reducible rfl))
            try simp only [Act.put, List.setIfInBounds_toArray, List.set_cons_zero, List.set_cons_succ]
            refine rgTake (i := 10) (d := 23) (v := ?_) rfl rfl (by kernel_rfl) (by kernel_rfl) (by kernel_rfl) (fun _ _ _ h => h) (by rfl) ?_ (by assumption) ?_
            rotate_left
            · ((intro w hSw); (try dsimp only at hSw); go_simp; (try with_reducible rfl))
            try simp only [Act.put, List.setIfInBounds_toArray, List.set_cons_zero, List.set_cons_succ]
            refine rgTake (i := 11) (d := 24) (v := ?_) rfl rfl (by kernel_rfl) (by kernel_rfl) (by kernel_rfl) (fun _ _ _ h => h) (by rfl) ?_ (by assumption) ?_
            rotate_left
            · ((intro w hSw); (try dsimp only at hSw); go_simp; (try with_reducible rfl))
            try simp only [Act.put, List.setIfInBounds_toArray, List.set_cons_zero, List.set_cons_succ]
            refine rgTake (i := 12) (d := 25) (v := ?_) rfl rfl (by kernel_rfl) (by kernel_rfl) (by kernel_rfl) (fun _ _ _ h => h) (by rfl) ?_ (by assumption) ?_
            rotate_left
            · ((intro w hSw); (try dsimp only at hSw); go_simp; (try with_reducible rfl))
            try simp only [Act.put, List.setIfInBounds_toArray, List.set_cons_zero, List.set_cons_succ]
            refine rgTake (i := 13) (d := 26) (v := ?_) rfl rfl (by kernel_rfl) (by kernel_rfl) (by kernel_rfl) (fun _ _ _ h => h) (by rfl) ?_ (by assumption) ?_
            rotate_left
            · ((intro w hSw); (try dsimp only at hSw); (have s0 := SC.out _ hSw; have s1 := CC.out _ (G.trans (hSw.mono G.size))); go_simp; (try with_reducible rfl))
            try simp only [Act.put, List.setIfInBounds_toArray, List.set_cons_zero, List.set_cons_succ]
            refine rgTake (i := 14) (d := 27) (v := ?_) rfl rfl (by kernel_rfl) (by kernel_rfl) (by kernel_rfl) (fun _ _ _ h => h) (by rfl) ?_ (by assumption) ?_
            rotate_left
            · ((intro w hSw); (try dsimp only at hSw); go_simp; (try with_reducible rfl))
            try simp only [Act.put, List.setIfInBounds_toArray, List.set_cons_zero, List.set_cons_succ]
            refine rgTake (i := 15) (d := 28) (v := ?_) rfl rfl (by kernel_rfl) (by kernel_rfl) (by kernel_rfl) (fun _ _ _ h => h) (by rfl) ?_ (by assumption) ?_
            rotate_left
            · ((intro w hSw); (try dsimp only at hSw); go_simp; (try with_reducible rfl))
            try simp only [Act.put, List.setIfInBounds_toArray, List.set_cons_zero, List.set_cons_succ]
            refine wpAnyH_done (by kernel_rfl) ?_ _
            have hI := HINS0.out k hk HN.out (fun _ => HCM.out)
            have HI := Lib.hid hI
            have hown1 := own_below hown hHeld
            have G1 := G.trans (hHeld.mono G.size)
            clear hI hq8 hcmp HN HINS0
            have hke : ((k : Int) == (m : Int)) = false := by simp; omega
            cases heq : eqS X[k] c
            · have HEQ := Lib.hid heq
              have hq9 : (X[k].toList != c.toList) = true := by
                unfold eqS at heq
                simp only [bne, heq]; rfl
              have hq7 : (X[k].toList == c.toList) = false := heq
              go_upto_region 8 with (fail)
              refine wp_region_held_drew (S := fun w' => Below wr.heap.size wr w') (by kernel_rfl) ?_ (fun hHeld => ?_)
              · (try dsimp only)
                exact hHeld.drew
              refine rgTake (i := 0) (d := 31) (v := ?_) rfl rfl (by kernel_rfl) (by kernel_rfl) (by kernel_rfl) (fun _ _ _ h => h) (by rfl) ?_ (by assumption) ?_
              rotate_left
              · ((intro w hSw); (try dsimp only at hSw); go_simp; (try with_reducible rfl))
              try simp only [Act.put, List.setIfInBounds_toArray, List.set_cons_zero, List.set_cons_succ]
              refine rgTake (i := 1) (d := 32) (v := ?_) rfl rfl (by kernel_rfl) (by kernel_rfl) (by kernel_rfl) (fun _ _ _ h => h) (by rfl) ?_ (by assumption) ?_
              rotate_left
              · ((intro w hSw); (try dsimp only at hSw); go_simp; (try with_reducible rfl))
              try simp only [Act.put, List.setIfInBounds_toArray, List.set_cons_zero, List.set_cons_succ]
              refine rgTake (i := 2) (d := 33) (v := ?_) rfl rfl (by kernel_rfl) (by kernel_rfl) (by kernel_rfl) (fun _ _ _ h => h) (by rfl) ?_ (by assumption) ?_
              rotate_left
              · ((intro w hSw); (try dsimp only at hSw); go_simp; (try with_reducible rfl))
              try simp only [Act.put, List.setIfInBounds_toArray, List.set_cons_zero, List.set_cons_succ]
              refine rgTake (i := 3) (d := 34) (v := ?_) rfl rfl (by kernel_rfl) (by kernel_rfl) (by kernel_rfl) (fun _ _ _ h => h) (by rfl) ?_ (by assumption) ?_
              rotate_left
              · ((intro w hSw); (try dsimp only at hSw); go_simp; (try with_reducible rfl))
              try simp only [Act.put, List.setIfInBounds_toArray, List.set_cons_zero, List.set_cons_succ]
              refine rgTake (i := 4) (d := 35) (v := ?_) rfl rfl (by kernel_rfl) (by kernel_rfl) (by kernel_rfl) (fun _ _ _ h => h) (by rfl) ?_ (by assumption) ?_
              rotate_left
              · ((intro w hSw); (try dsimp only at hSw); go_simp; (try with_reducible rfl))
              try simp only [Act.put, List.setIfInBounds_toArray, List.set_cons_zero, List.set_cons_succ]
              refine rgTake (i := 5) (d := 36) (v := ?_) rfl rfl (by kernel_rfl) (by kernel_rfl) (by kernel_rfl) (fun _ _ _ h => h) (by rfl) ?_ (by assumption) ?_
              rotate_left
              · ((intro w hSw); (try dsimp only at hSw); go_simp; (try with_reducible rfl))
              try simp only [Act.put, List.setIfInBounds_toArray, List.set_cons_zero, List.set_cons_succ]
              refine rgTake (i := 6) (d := 37) (v := ?_) rfl rfl (by kernel_rfl) (by kernel_rfl) (by kernel_rfl) (fun _ _ _ h => h) (by rfl) ?_ (by assumption) ?_
              rotate_left
              · ((intro w hSw); (try dsimp only at hSw); go_simp; (try with_reducible rfl))
              try simp only [Act.put, List.setIfInBounds_toArray, List.set_cons_zero, List.set_cons_succ]
              refine rgTake (i := 7) (d := 38) (v := ?_) rfl rfl (by kernel_rfl) (by kernel_rfl) (by kernel_rfl) (fun _ _ _ h => h) (by rfl) ?_ (by assumption) ?_
              rotate_left
              · ((intro w hSw); (try dsimp only at hSw); go_simp; (try with_reducible rfl))
              try simp only [Act.put, List.setIfInBounds_toArray, List.set_cons_zero, List.set_cons_succ]
              refine rgTake (i := 8) (d := 39) (v := ?_) rfl rfl (by kernel_rfl) (by kernel_rfl) (by kernel_rfl) (fun _ _ _ h => h) (by rfl) ?_ (by assumption) ?_
              rotate_left
              · ((intro w hSw); (try dsimp only at hSw); (have s0 := SC.out _ hSw; have s1 := CC.out _ (G.trans (hSw.mono G.size))); go_simp; (try with_reducible rfl))
              try simp only [Act.put, List.setIfInBounds_toArray, List.set_cons_zero, List.set_cons_succ]
              refine rgTake (i := 9) (d := 40) (v := ?_) rfl rfl (by kernel_rfl) (by kernel_rfl) (by kernel_rfl) (fun _ _ _ h => h) (by rfl) ?_ (by assumption) ?_
              rotate_left
              · ((intro w hSw); (try dsimp only at hSw); go_simp; (try with_reducible rfl))
              try simp only [Act.put, List.setIfInBounds_toArray, List.set_cons_zero, List.set_cons_succ]
              refine rgTake (i := 10) (d := 41) (v := ?_) rfl rfl (by kernel_rfl) (by kernel_rfl) (by kernel_rfl) (fun _ _ _ h => h) (by rfl) ?_ (by assumption) ?_
              rotate_left
              · ((intro w hSw); (try dsimp only at hSw); go_simp; (try with_reducible rfl))
              try simp only [Act.put, List.setIfInBounds_toArray, List.set_cons_zero, List.set_cons_succ]
              refine rgTake (i := 11) (d := 42) (v := ?_) rfl rfl (by kernel_rfl) (by kernel_rfl) (by kernel_rfl) (fun _ _ _ h => h) (by rfl) ?_ (by assumption) ?_
              rotate_left
              · ((intro w hSw); (try dsimp only at hSw); go_simp; (try with_reducible rfl))
              try simp only [Act.put, List.setIfInBounds_toArray, List.set_cons_zero, List.set_cons_succ]
              refine rgTake (i := 12) (d := 43) (v := ?_) rfl rfl (by kernel_rfl) (by kernel_rfl) (by kernel_rfl) (fun _ _ _ h => h) (by rfl) ?_ (by assumption) ?_
              rotate_left
              · ((intro w hSw); (try dsimp only at hSw); go_simp; (try with_reducible rfl))
              try simp only [Act.put, List.setIfInBounds_toArray, List.set_cons_zero, List.set_cons_succ]
              refine rgTake (i := 13) (d := 44) (v := ?_) rfl rfl (by kernel_rfl) (by kernel_rfl) (by kernel_rfl) (fun _ _ _ h => h) (by rfl) ?_ (by assumption) ?_
              rotate_left
              · ((intro w hSw); (try dsimp only at hSw); (have s0 := SC.out _ hSw; have s1 := CC.out _ (G.trans (hSw.mono G.size))); go_simp; (try with_reducible rfl))
              try simp only [Act.put, List.setIfInBounds_toArray, List.set_cons_zero, List.set_cons_succ]
              refine rgTake (i := 14) (d := 45) (v := ?_) rfl rfl (by kernel_rfl) (by kernel_rfl) (by kernel_rfl) (fun _ _ _ h => h) (by rfl) ?_ (by assumption) ?_
              rotate_left
              · ((intro w hSw); (try dsimp only at hSw); go_simp; (try with_reducible rfl))
              try simp only [Act.put, List.setIfInBounds_toArray, List.set_cons_zero, List.set_cons_succ]
              refine rgTake (i := 15) (d := 46) (v := ?_) rfl rfl (by kernel_rfl) (by kernel_rfl) (by kernel_rfl) (fun _ _ _ h => h) (by rfl) ?_ (by assumption) ?_
              rotate_left
              · ((intro w hSw); (try dsimp only at hSw); go_simp; (try with_reducible rfl))
              try simp only [Act.put, List.setIfInBounds_toArray, List.set_cons_zero, List.set_cons_succ]
              refine wpAnyH_done (by kernel_rfl) ?_ _
              have HINS := Lib.hid (HI.out.1 (fun _ => HEQ.out))
              replace hown := own_below hown hHeld
              replace G := G.trans (hHeld.mono G.size)
              clear hown1 G1 hHeld HI SC heq hq9 hq7
              go_upto_region 9 with (fail)
              generalize wr.drew.drew = wx at *
              have ROWN := Lib.hid (Rd.of_own hown)
              have HRI := Lib.hid (show strs (X.take k) ++ [Value.string c] ++ strs (X.drop k) = strs (X.take k ++ c :: X.drop k) by simp [strs])
              have EK := Lib.hid (show k + 1 + (m - k) = m + 1 by omega)
              have hkc : ¬ (cp = k) := by omega
              have hk3 : k ≤ cp := by omega
              have hk4 : k ≤ m := by omega
              have hk5 : (k : Int) ≤ (cp : Int) := by omega
              have hk6 : (k : Int) ≤ (m : Int) := by omega
              refine wp_region_held_drew (S := fun w' => Below wx.heap.size wx w') (by kernel_rfl) ?_ (fun hHeld => ?_)
              · (try dsimp only)
                first | exact (Below.refl _ _).drew | exact hHeld.alloc hHeld.size _
              refine rgTake (i := 1) (d := 48) (v := ?_) rfl rfl (by kernel_rfl) (by kernel_rfl) (by kernel_rfl) (fun _ _ _ h => h) (by rfl) ?_ (by assumption) ?_
              rotate_left
              · ((intro w hSw); (try dsimp only at hSw); go_simp; (try with_reducible rfl))
              try simp only [Act.put, List.setIfInBounds_toArray, List.set_cons_zero, List.set_cons_succ]
              refine rgTake (i := 2) (d := 49) (v := ?_) rfl rfl (by kernel_rfl) (by kernel_rfl) (by kernel_rfl) (fun _ _ _ h => h) (by rfl) ?_ (by assumption) ?_
              rotate_left
              · ((intro w hSw); (try dsimp only at hSw); go_simp; (try with_reducible rfl))
              try simp only [Act.put, List.setIfInBounds_toArray, List.set_cons_zero, List.set_cons_succ]
              refine rgTake (i := 3) (d := 50) (v := ?_) rfl rfl (by kernel_rfl) (by kernel_rfl) (by kernel_rfl) (fun _ _ _ h => h) (by rfl) ?_ (by assumption) ?_
              rotate_left
              · ((intro w hSw); (try dsimp only at hSw); go_simp; (try with_reducible rfl))
              try simp only [Act.put, List.setIfInBounds_toArray, List.set_cons_zero, List.set_cons_succ]
              refine rgTake (i := 5) (d := 52) (v := ?_) rfl rfl (by kernel_rfl) (by kernel_rfl) (by kernel_rfl) (fun _ _ _ h => h) (by rfl) ?_ (by assumption) ?_
              rotate_left
              · ((intro w hSw); (try dsimp only at hSw); go_simp; (try with_reducible rfl))
              try simp only [Act.put, List.setIfInBounds_toArray, List.set_cons_zero, List.set_cons_succ]
              refine rgTake (i := 6) (d := 53) (v := ?_) rfl rfl (by kernel_rfl) (by kernel_rfl) (by kernel_rfl) (fun _ _ _ h => h) (by rfl) ?_ (by assumption) ?_
              rotate_left
              · ((intro w hSw); (try dsimp only at hSw); go_simp; (try with_reducible rfl))
              try simp only [Act.put, List.setIfInBounds_toArray, List.set_cons_zero, List.set_cons_succ]
              refine rgTake (i := 7) (d := 54) (v := ?_) rfl rfl (by kernel_rfl) (by kernel_rfl) (by kernel_rfl) (fun _ _ _ h => h) (by rfl) ?_ (by assumption) ?_
              rotate_left
              · ((intro w hSw); (try dsimp only at hSw); go_simp; (try with_reducible rfl))
              try simp only [Act.put, List.setIfInBounds_toArray, List.set_cons_zero, List.set_cons_succ]
              refine rgTake (i := 8) (d := 55) (v := ?_) rfl rfl (by kernel_rfl) (by kernel_rfl) (by kernel_rfl) (fun _ _ _ h => h) (by rfl) ?_ (by assumption) ?_
              rotate_left
              · ((intro w hSw); (try dsimp only at hSw); go_simp; (try with_reducible rfl))
              try simp only [Act.put, List.setIfInBounds_toArray, List.set_cons_zero, List.set_cons_succ]
              refine rgTake (i := 9) (d := 56) (v := ?_) rfl rfl (by kernel_rfl) (by kernel_rfl) (by kernel_rfl) (fun _ _ _ h => h) (by rfl) ?_ (by assumption) ?_
              rotate_left
              · ((intro w hSw); (try dsimp only at hSw); (have z1 := CC.out _ (G.trans (hSw.mono G.size))); go_simp; (try with_reducible rfl))
              try simp only [Act.put, List.setIfInBounds_toArray, List.set_cons_zero, List.set_cons_succ]
              refine rgTake (i := 12) (d := 59) (v := ?_) rfl rfl (by kernel_rfl) (by kernel_rfl) (by kernel_rfl) (fun _ _ _ h => h) (by rfl) ?_ (by assumption) ?_
              rotate_left
              · ((intro w hSw); (try dsimp only at hSw); go_simp; (try with_reducible rfl))
              try simp only [Act.put, List.setIfInBounds_toArray, List.set_cons_zero, List.set_cons_succ]
              refine rgTake (i := 13) (d := 60) (v := ?_) rfl rfl (by kernel_rfl) (by kernel_rfl) (by kernel_rfl) (fun _ _ _ h => h) (by rfl) ?_ (by assumption) ?_
              rotate_left
              · ((intro w hSw); (try dsimp only at hSw); go_simp; (try with_reducible rfl))
              try simp only [Act.put, List.setIfInBounds_toArray, List.set_cons_zero, List.set_cons_succ]
              refine rgTake (i := 14) (d := 61) (v := ?_) rfl rfl (by kernel_rfl) (by kernel_rfl) (by kernel_rfl) (fun _ _ _ h => h) (by rfl) ?_ (by assumption) ?_
              rotate_left
              · ((intro w hSw); (try dsimp only at hSw); go_simp; (try with_reducible rfl))
              try simp only [Act.put, List.setIfInBounds_toArray, List.set_cons_zero, List.set_cons_succ]
              refine wpAnyH_ready (rs := [0, 10]) (by kernel_rfl) (by simp) ?_
              refine AllReadyH.cons rfl (fun K hK => ?_) ?_
              ·
                go_simp
                refine hK.out _ _ ?_ (fun hHeld => ?_)
                · (try dsimp only)
                  first | exact (Below.refl _ _).drew | exact hHeld.alloc hHeld.size _
                clear hK K
                try simp only [Act.put, List.setIfInBounds_toArray, List.set_cons_zero, List.set_cons_succ]
                refine wpAnyH_ready (rs := [4, 10]) (by kernel_rfl) (by simp) ?_
                refine AllReadyH.cons rfl (fun K hK => ?_) ?_
                ·
                  first | (refine step_append_rd rfl _ _ 53 rfl wx.heap.size 9 i0 (.string ByteArray.empty) 1 16 Try.underlying53 hi0 hz0 hz1 hz2 rfl (by decide) (.slice (some ⟨wx.heap.size, 0, none⟩) 0 0) 0 [] rfl ((Blk.new wx.drew 9 []).own (size := 1) (n := 0) (Nat.le_refl _) rfl (Nat.zero_le _)) _ _ _ _ _ rfl ((ROWN.out.below hHeld).takes hk) (strs_one _) (by simp only [maxLen]; omega) (by omega) hHeld.size ?_; intro A8 c8 w8 h8 own8 grow8 at8; simp only [Nat.zero_add, List.nil_append] at h8 own8 at8 ⊢; have V8 := own8) | (refine step_append_rd rfl _ _ 53 rfl wx.heap.size 9 i0 (.string ByteArray.empty) 1 16 Try.underlying53 hi0 hz0 hz1 hz2 rfl (by decide) (.slice (some ⟨wx.heap.size, 0, none⟩) 0 0) 0 [] rfl ((two_newT wx.drew 9 9 [] [.string c]).1.own (size := 1) (n := 0) (Nat.le_refl _) rfl (Nat.zero_le _)) _ _ _ _ _ rfl ((ROWN.out.below hHeld).takes hk) (strs_one _) (by simp only [maxLen]; omega) (by omega) hHeld.size ?_; intro A8 c8 w8 h8 own8 grow8 at8; simp only [Nat.zero_add, List.nil_append] at h8 own8 at8 ⊢; have V8 : Blk w8 (wx.heap.size + 1) 9 [.string c] := ((two_newT wx.drew 9 9 [] [.string c]).2).grown grow8 (by simp [Value.ownBlock])) | (refine step_append_rd rfl _ _ 53 rfl wx.heap.size 9 i0 (.string ByteArray.empty) 1 16 Try.underlying53 hi0 hz0 hz1 hz2 rfl (by decide) (.slice (some ⟨wx.heap.size + 1, 0, none⟩) 0 0) 0 [] rfl ((two_newT wx.drew 9 9 [.string c] []).2.own (size := 1) (n := 0) (Nat.le_succ _) rfl (Nat.zero_le _)) _ _ _ _ _ rfl ((ROWN.out.below hHeld).takes hk) (strs_one _) (by simp only [maxLen]; omega) (by omega) hHeld.size ?_; intro A8 c8 w8 h8 own8 grow8 at8; simp only [Nat.zero_add, List.nil_append] at h8 own8 at8 ⊢; have V8 : Blk w8 (wx.heap.size) 9 [.string c] := ((two_newT wx.drew 9 9 [.string c] []).1).grown grow8 (by simp [Value.ownBlock]))
                  refine hK.out _ _ ?_ (fun hHeld => ?_)
                  · (try dsimp only)
                    exact hHeld.grown grow8 hHeld.size (fun k hk => by simp [Value.ownBlock] at hk; omega)
                  clear hK K
                  try simp only [Act.put, List.setIfInBounds_toArray, List.set_cons_zero, List.set_cons_succ]
                  refine wpAnyH_ready (rs := [10]) (by kernel_rfl) (by simp) ?_
                  refine AllReadyH.cons rfl (fun K hK => ?_) AllReadyH.nil
                  go_simp
                  refine hK.out _ _ ?_ (fun hHeld => ?_)
                  · (try dsimp only)
                    first | exact (Below.refl _ _).drew | exact hHeld.alloc hHeld.size _
                  clear hK K
                  try simp only [Act.put, List.setIfInBounds_toArray, List.set_cons_zero, List.set_cons_succ]
                  refine wpAnyH_ready (rs := [11]) (by kernel_rfl) (by simp) ?_
                  refine AllReadyH.cons rfl (fun K hK => ?_) AllReadyH.nil
                  first | (refine step_append_rd rfl _ _ 53 rfl wx.heap.size 9 i0 (.string ByteArray.empty) 1 16 Try.underlying53 hi0 hz0 hz1 hz2 rfl (by decide) (.slice A8 k c8) k (strs (X.take k)) rfl (own8) _ _ _ _ _ rfl (V8.rd (size := 1) (n := 1) rfl) (fun u hu => by simp at hu; subst hu; rfl) (by simp only [maxLen]; omega) (by omega) hHeld.size ?_; intro A7 c7 w7 h7 own7 grow7 at7) | (refine step_append_rd rfl _ _ 53 rfl wx.heap.size 9 i0 (.string ByteArray.empty) 1 16 Try.underlying53 hi0 hz0 hz1 hz2 rfl (by decide) (.slice A8 k c8) k (strs (X.take k)) rfl (own8.alloc _) _ _ _ _ _ rfl ((Blk.new w8 9 [.string c]).rd (size := 1) (n := 1) rfl) (fun u hu => by simp at hu; subst hu; rfl) (by simp only [maxLen]; omega) (by omega) hHeld.size ?_; intro A7 c7 w7 h7 own7 grow7 at7)
                  refine hK.out _ _ ?_ (fun hHeld => ?_)
                  · (try dsimp only)
                    exact hHeld.grown grow7 hHeld.size (fun k hk => (own8.lt k hk).1)
                  clear hK K
                  try simp only [Act.put, List.setIfInBounds_toArray, List.set_cons_zero, List.set_cons_succ]
                  refine wpAnyH_ready (rs := [15]) (by kernel_rfl) (by simp) ?_
                  refine AllReadyH.cons rfl (fun K hK => ?_) AllReadyH.nil
                  refine step_append_rd rfl _ _ 53 rfl wx.heap.size 9 i0 (.string ByteArray.empty) 1 16 Try.underlying53 hi0 hz0 hz1 hz2 rfl (by decide) (.slice A7 (k + 1) c7) (k + 1) (strs (X.take k) ++ [.string c]) rfl (own7) _ _ _ _ _ rfl ((ROWN.out.below hHeld).drops0 hk) (strs_one _) (by simp only [maxLen]; omega) (by omega) hHeld.size ?_; intro A9 c9 w9 h9 own9 grow9 at9; simp only [EK.out, Nat.add_zero, List.append_nil] at h9 own9 ⊢
                  refine hK.out _ _ ?_ (fun hHeld => ?_)
                  · (try dsimp only)
                    exact hHeld.grown grow9 hHeld.size (fun k hk => (own7.lt k hk).1)
                  clear hK K
                  try simp only [Act.put, List.setIfInBounds_toArray, List.set_cons_zero, List.set_cons_succ]
                  refine rgTake (i := 16) (d := 3) (v := ?_) rfl rfl (by kernel_rfl) (by kernel_rfl) (by kernel_rfl) (fun _ _ _ h => h) (by rfl) ?_ (by assumption) ?_
                  rotate_left
                  · ((intro w hSw); (try dsimp only at hSw); go_simp; (try with_reducible rfl))
                  try simp only [Act.put, List.setIfInBounds_toArray, List.set_cons_zero, List.set_cons_succ]
                  refine wpAnyH_done (by kernel_rfl) ?_ _
                  have OW2 := own_le own9 G.size
                  have G9 := G.trans (hHeld.mono G.size)
                  rw [HRI.out] at OW2
                  clear own9 own7 own8 V8 hHeld
                  go_wp2_with fail
                  go_roundw
                  case rel => exact ⟨j + 1, m + 1, X.take k ++ c :: X.drop k, A9, c9, by omega, by go_num, HINS.out, by omega, rfl, OW2, G9⟩
                  case measure => simp [intOf]; omega
                refine AllReadyH.cons rfl (fun K hK => ?_) ?_
                ·
                  go_simp
                  refine hK.out _ _ ?_ (fun hHeld => ?_)
                  · (try dsimp only)
                    first | exact (Below.refl _ _).drew | exact hHeld.alloc hHeld.size _
                  clear hK K
                  try simp only [Act.put, List.setIfInBounds_toArray, List.set_cons_zero, List.set_cons_succ]
                  refine wpAnyH_ready (rs := [4]) (by kernel_rfl) (by simp) ?_
                  refine AllReadyH.cons rfl (fun K hK => ?_) AllReadyH.nil
                  first | (refine step_append_rd rfl _ _ 53 rfl wx.heap.size 9 i0 (.string ByteArray.empty) 1 16 Try.underlying53 hi0 hz0 hz1 hz2 rfl (by decide) (.slice (some ⟨wx.heap.size, 0, none⟩) 0 0) 0 [] rfl ((Blk.new wx.drew 9 []).own (size := 1) (n := 0) (Nat.le_refl _) rfl (Nat.zero_le _)) _ _ _ _ _ rfl ((ROWN.out.below hHeld).takes hk) (strs_one _) (by simp only [maxLen]; omega) (by omega) hHeld.size ?_; intro A8 c8 w8 h8 own8 grow8 at8; simp only [Nat.zero_add, List.nil_append] at h8 own8 at8 ⊢; have V8 := own8) | (refine step_append_rd rfl _ _ 53 rfl wx.heap.size 9 i0 (.string ByteArray.empty) 1 16 Try.underlying53 hi0 hz0 hz1 hz2 rfl (by decide) (.slice (some ⟨wx.heap.size, 0, none⟩) 0 0) 0 [] rfl ((two_newT wx.drew 9 9 [] [.string c]).1.own (size := 1) (n := 0) (Nat.le_refl _) rfl (Nat.zero_le _)) _ _ _ _ _ rfl ((ROWN.out.below hHeld).takes hk) (strs_one _) (by simp only [maxLen]; omega) (by omega) hHeld.size ?_; intro A8 c8 w8 h8 own8 grow8 at8; simp only [Nat.zero_add, List.nil_append] at h8 own8 at8 ⊢; have V8 : Blk w8 (wx.heap.size + 1) 9 [.string c] := ((two_newT wx.drew 9 9 [] [.string c]).2).grown grow8 (by simp [Value.ownBlock])) | (refine step_append_rd rfl _ _ 53 rfl wx.heap.size 9 i0 (.string ByteArray.empty) 1 16 Try.underlying53 hi0 hz0 hz1 hz2 rfl (by decide) (.slice (some ⟨wx.heap.size + 1, 0, none⟩) 0 0) 0 [] rfl ((two_newT wx.drew 9 9 [.string c] []).2.own (size := 1) (n := 0) (Nat.le_succ _) rfl (Nat.zero_le _)) _ _ _ _ _ rfl ((ROWN.out.below hHeld).takes hk) (strs_one _) (by simp only [maxLen]; omega) (by omega) hHeld.size ?_; intro A8 c8 w8 h8 own8 grow8 at8; simp only [Nat.zero_add, List.nil_append] at h8 own8 at8 ⊢; have V8 : Blk w8 (wx.heap.size) 9 [.string c] := ((two_newT wx.drew 9 9 [.string c] []).1).grown grow8 (by simp [Value.ownBlock]))
                  refine hK.out _ _ ?_ (fun hHeld => ?_)
                  · (try dsimp only)
                    exact hHeld.grown grow8 hHeld.size (fun k hk => by simp [Value.ownBlock] at hk; omega)
                  clear hK K
                  try simp only [Act.put, List.setIfInBounds_toArray, List.set_cons_zero, List.set_cons_succ]
                  refine wpAnyH_ready (rs := [11]) (by kernel_rfl) (by simp) ?_
                  refine AllReadyH.cons rfl (fun K hK => ?_) AllReadyH.nil
                  first | (refine step_append_rd rfl _ _ 53 rfl wx.heap.size 9 i0 (.string ByteArray.empty) 1 16 Try.underlying53 hi0 hz0 hz1 hz2 rfl (by decide) (.slice A8 k c8) k (strs (X.take k)) rfl (own8) _ _ _ _ _ rfl (V8.rd (size := 1) (n := 1) rfl) (fun u hu => by simp at hu; subst hu; rfl) (by simp only [maxLen]; omega) (by omega) hHeld.size ?_; intro A7 c7 w7 h7 own7 grow7 at7) | (refine step_append_rd rfl _ _ 53 rfl wx.heap.size 9 i0 (.string ByteArray.empty) 1 16 Try.underlying53 hi0 hz0 hz1 hz2 rfl (by decide) (.slice A8 k c8) k (strs (X.take k)) rfl (own8.alloc _) _ _ _ _ _ rfl ((Blk.new w8 9 [.string c]).rd (size := 1) (n := 1) rfl) (fun u hu => by simp at hu; subst hu; rfl) (by simp only [maxLen]; omega) (by omega) hHeld.size ?_; intro A7 c7 w7 h7 own7 grow7 at7)
                  refine hK.out _ _ ?_ (fun hHeld => ?_)
                  · (try dsimp only)
                    exact hHeld.grown grow7 hHeld.size (fun k hk => (own8.lt k hk).1)
                  clear hK K
                  try simp only [Act.put, List.setIfInBounds_toArray, List.set_cons_zero, List.set_cons_succ]
                  refine wpAnyH_ready (rs := [15]) (by kernel_rfl) (by simp) ?_
                  refine AllReadyH.cons rfl (fun K hK => ?_) AllReadyH.nil
                  refine step_append_rd rfl _ _ 53 rfl wx.heap.size 9 i0 (.string ByteArray.empty) 1 16 Try.underlying53 hi0 hz0 hz1 hz2 rfl (by decide) (.slice A7 (k + 1) c7) (k + 1) (strs (X.take k) ++ [.string c]) rfl (own7) _ _ _ _ _ rfl ((ROWN.out.below hHeld).drops0 hk) (strs_one _) (by simp only [maxLen]; omega) (by omega) hHeld.size ?_; intro A9 c9 w9 h9 own9 grow9 at9; simp only [EK.out, Nat.add_zero, List.append_nil] at h9 own9 ⊢
                  refine hK.out _ _ ?_ (fun hHeld => ?_)
                  · (try dsimp only)
                    exact hHeld.grown grow9 hHeld.size (fun k hk => (own7.lt k hk).1)
                  clear hK K
                  try simp only [Act.put, List.setIfInBounds_toArray, List.set_cons_zero, List.set_cons_succ]
                  refine rgTake (i := 16) (d := 3) (v := ?_) rfl rfl (by kernel_rfl) (by kernel_rfl) (by kernel_rfl) (fun _ _ _ h => h) (by rfl) ?_ (by assumption) ?_
                  rotate_left
                  · ((intro w hSw); (try dsimp only at hSw); go_simp; (try with_reducible rfl))
                  try simp only [Act.put, List.setIfInBounds_toArray, List.set_cons_zero, List.set_cons_succ]
                  refine wpAnyH_done (by kernel_rfl) ?_ _
                  have OW2 := own_le own9 G.size
                  have G9 := G.trans (hHeld.mono G.size)
                  rw [HRI.out] at OW2
                  clear own9 own7 own8 V8 hHeld
                  go_wp2_with fail
                  go_roundw
                  case rel => exact ⟨j + 1, m + 1, X.take k ++ c :: X.drop k, A9, c9, by omega, by go_num, HINS.out, by omega, rfl, OW2, G9⟩
                  case measure => simp [intOf]; omega
                exact AllReadyH.nil
              refine AllReadyH.cons rfl (fun K hK => ?_) ?_
              ·
                go_simp
                refine hK.out _ _ ?_ (fun hHeld => ?_)
                · (try dsimp only)
                  first | exact (Below.refl _ _).drew | exact hHeld.alloc hHeld.size _
                clear hK K
                try simp only [Act.put, List.setIfInBounds_toArray, List.set_cons_zero, List.set_cons_succ]
                refine wpAnyH_ready (rs := [0]) (by kernel_rfl) (by simp) ?_
                refine AllReadyH.cons rfl (fun K hK => ?_) AllReadyH.nil
                go_simp
                refine hK.out _ _ ?_ (fun hHeld => ?_)
                · (try dsimp only)
                  first | exact (Below.refl _ _).drew | exact hHeld.alloc hHeld.size _
                clear hK K
                try simp only [Act.put, List.setIfInBounds_toArray, List.set_cons_zero, List.set_cons_succ]
                refine wpAnyH_ready (rs := [4]) (by kernel_rfl) (by simp) ?_
                refine AllReadyH.cons rfl (fun K hK => ?_) AllReadyH.nil
                first | (refine step_append_rd rfl _ _ 53 rfl wx.heap.size 9 i0 (.string ByteArray.empty) 1 16 Try.underlying53 hi0 hz0 hz1 hz2 rfl (by decide) (.slice (some ⟨wx.heap.size, 0, none⟩) 0 0) 0 [] rfl ((Blk.new wx.drew 9 []).own (size := 1) (n := 0) (Nat.le_refl _) rfl (Nat.zero_le _)) _ _ _ _ _ rfl ((ROWN.out.below hHeld).takes hk) (strs_one _) (by simp only [maxLen]; omega) (by omega) hHeld.size ?_; intro A8 c8 w8 h8 own8 grow8 at8; simp only [Nat.zero_add, List.nil_append] at h8 own8 at8 ⊢; have V8 := own8) | (refine step_append_rd rfl _ _ 53 rfl wx.heap.size 9 i0 (.string ByteArray.empty) 1 16 Try.underlying53 hi0 hz0 hz1 hz2 rfl (by decide) (.slice (some ⟨wx.heap.size, 0, none⟩) 0 0) 0 [] rfl ((two_newT wx.drew 9 9 [] [.string c]).1.own (size := 1) (n := 0) (Nat.le_refl _) rfl (Nat.zero_le _)) _ _ _ _ _ rfl ((ROWN.out.below hHeld).takes hk) (strs_one _) (by simp only [maxLen]; omega) (by omega) hHeld.size ?_; intro A8 c8 w8 h8 own8 grow8 at8; simp only [Nat.zero_add, List.nil_append] at h8 own8 at8 ⊢; have V8 : Blk w8 (wx.heap.size + 1) 9 [.string c] := ((two_newT wx.drew 9 9 [] [.string c]).2).grown grow8 (by simp [Value.ownBlock])) | (refine step_append_rd rfl _ _ 53 rfl wx.heap.size 9 i0 (.string ByteArray.empty) 1 16 Try.underlying53 hi0 hz0 hz1 hz2 rfl (by decide) (.slice (some ⟨wx.heap.size + 1, 0, none⟩) 0 0) 0 [] rfl ((two_newT wx.drew 9 9 [.string c] []).2.own (size := 1) (n := 0) (Nat.le_succ _) rfl (Nat.zero_le _)) _ _ _ _ _ rfl ((ROWN.out.below hHeld).takes hk) (strs_one _) (by simp only [maxLen]; omega) (by omega) hHeld.size ?_; intro A8 c8 w8 h8 own8 grow8 at8; simp only [Nat.zero_add, List.nil_append] at h8 own8 at8 ⊢; have V8 : Blk w8 (wx.heap.size) 9 [.string c] := ((two_newT wx.drew 9 9 [.string c] []).1).grown grow8 (by simp [Value.ownBlock]))
                refine hK.out _ _ ?_ (fun hHeld => ?_)
                · (try dsimp only)
                  exact hHeld.grown grow8 hHeld.size (fun k hk => by simp [Value.ownBlock] at hk; omega)
                clear hK K
                try simp only [Act.put, List.setIfInBounds_toArray, List.set_cons_zero, List.set_cons_succ]
                refine wpAnyH_ready (rs := [11]) (by kernel_rfl) (by simp) ?_
                refine AllReadyH.cons rfl (fun K hK => ?_) AllReadyH.nil
                first | (refine step_append_rd rfl _ _ 53 rfl wx.heap.size 9 i0 (.string ByteArray.empty) 1 16 Try.underlying53 hi0 hz0 hz1 hz2 rfl (by decide) (.slice A8 k c8) k (strs (X.take k)) rfl (own8) _ _ _ _ _ rfl (V8.rd (size := 1) (n := 1) rfl) (fun u hu => by simp at hu; subst hu; rfl) (by simp only [maxLen]; omega) (by omega) hHeld.size ?_; intro A7 c7 w7 h7 own7 grow7 at7) | (refine step_append_rd rfl _ _ 53 rfl wx.heap.size 9 i0 (.string ByteArray.empty) 1 16 Try.underlying53 hi0 hz0 hz1 hz2 rfl (by decide) (.slice A8 k c8) k (strs (X.take k)) rfl (own8.alloc _) _ _ _ _ _ rfl ((Blk.new w8 9 [.string c]).rd (size := 1) (n := 1) rfl) (fun u hu => by simp at hu; subst hu; rfl) (by simp only [maxLen]; omega) (by omega) hHeld.size ?_; intro A7 c7 w7 h7 own7 grow7 at7)
                refine hK.out _ _ ?_ (fun hHeld => ?_)
                · (try dsimp only)
                  exact hHeld.grown grow7 hHeld.size (fun k hk => (own8.lt k hk).1)
                clear hK K
                try simp only [Act.put, List.setIfInBounds_toArray, List.set_cons_zero, List.set_cons_succ]
                refine wpAnyH_ready (rs := [15]) (by kernel_rfl) (by simp) ?_
                refine AllReadyH.cons rfl (fun K hK => ?_) AllReadyH.nil
                refine step_append_rd rfl _ _ 53 rfl wx.heap.size 9 i0 (.string ByteArray.empty) 1 16 Try.underlying53 hi0 hz0 hz1 hz2 rfl (by decide) (.slice A7 (k + 1) c7) (k + 1) (strs (X.take k) ++ [.string c]) rfl (own7) _ _ _ _ _ rfl ((ROWN.out.below hHeld).drops0 hk) (strs_one _) (by simp only [maxLen]; omega) (by omega) hHeld.size ?_; intro A9 c9 w9 h9 own9 grow9 at9; simp only [EK.out, Nat.add_zero, List.append_nil] at h9 own9 ⊢
                refine hK.out _ _ ?_ (fun hHeld => ?_)
                · (try dsimp only)
                  exact hHeld.grown grow9 hHeld.size (fun k hk => (own7.lt k hk).1)
                clear hK K
                try simp only [Act.put, List.setIfInBounds_toArray, List.set_cons_zero, List.set_cons_succ]
                refine rgTake (i := 16) (d := 3) (v := ?_) rfl rfl (by kernel_rfl) (by kernel_rfl) (by kernel_rfl) (fun _ _ _ h => h) (by rfl) ?_ (by assumption) ?_
                rotate_left
                · ((intro w hSw); (try dsimp only at hSw); go_simp; (try with_reducible rfl))
                try simp only [Act.put, List.setIfInBounds_toArray, List.set_cons_zero, List.set_cons_succ]
                refine wpAnyH_done (by kernel_rfl) ?_ _
                have OW2 := own_le own9 G.size
                have G9 := G.trans (hHeld.mono G.size)
                rw [HRI.out] at OW2
                clear own9 own7 own8 V8 hHeld
                go_wp2_with fail
                go_roundw
                case rel => exact ⟨j + 1, m + 1, X.take k ++ c :: X.drop k, A9, c9, by omega, by go_num, HINS.out, by omega, rfl, OW2, G9⟩
                case measure => simp [intOf]; omega
              exact AllReadyH.nil
            · have HEQ := Lib.hid heq
              have hq9 : (X[k].toList != c.toList) = false := by
                unfold eqS at heq
                simp only [bne, heq]; rfl
              have hq7 : (X[k].toList == c.toList) = true := heq
              go_upto_region 8 with (fail)
              refine wp_region_held_drew (S := fun w' => Below wr.heap.size wr w') (by kernel_rfl) ?_ (fun hHeld => ?_)
              · (try dsimp only)
                exact hHeld.drew
              refine rgTake (i := 0) (d := 31) (v := ?_) rfl rfl (by kernel_rfl) (by kernel_rfl) (by kernel_rfl) (fun _ _ _ h => h) (by rfl) ?_ (by assumption) ?_
              rotate_left
              · ((intro w hSw); (try dsimp only at hSw); go_simp; (try with_reducible rfl))
              try simp only [Act.put, List.setIfInBounds_toArray, List.set_cons_zero, List.set_cons_succ]
              refine rgTake (i := 1) (d := 32) (v := ?_) rfl rfl (by kernel_rfl) (by kernel_rfl) (by kernel_rfl) (fun _ _ _ h => h) (by rfl) ?_ (by assumption) ?_
              rotate_left
              · ((intro w hSw); (try dsimp only at hSw); go_simp; (try with_reducible rfl))
              try simp only [Act.put, List.setIfInBounds_toArray, List.set_cons_zero, List.set_cons_succ]
              refine rgTake (i := 2) (d := 33) (v := ?_) rfl rfl (by kernel_rfl) (by kernel_rfl) (by kernel_rfl) (fun _ _ _ h => h) (by rfl) ?_ (by assumption) ?_
              rotate_left
              · ((intro w hSw); (try dsimp only at hSw); go_simp; (try with_reducible rfl))
              try simp only [Act.put, List.setIfInBounds_toArray, List.set_cons_zero, List.set_cons_succ]
              refine rgTake (i := 3) (d := 34) (v := ?_) rfl rfl (by kernel_rfl) (by kernel_rfl) (by kernel_rfl) (fun _ _ _ h => h) (by rfl) ?_ (by assumption) ?_
              rotate_left
              · ((intro w hSw); (try dsimp only at hSw); go_simp; (try with_reducible rfl))
              try simp only [Act.put, List.setIfInBounds_toArray, List.set_cons_zero, List.set_cons_succ]
              refine rgTake (i := 4) (d := 35) (v := ?_) rfl rfl (by kernel_rfl) (by kernel_rfl) (by kernel_rfl) (fun _ _ _ h => h) (by rfl) ?_ (by assumption) ?_
              rotate_left
              · ((intro w hSw); (try dsimp only at hSw); go_simp; (try with_reducible rfl))
              try simp only [Act.put, List.setIfInBounds_toArray, List.set_cons_zero, List.set_cons_succ]
              refine rgTake (i := 5) (d := 36) (v := ?_) rfl rfl (by kernel_rfl) (by kernel_rfl) (by kernel_rfl) (fun _ _ _ h => h) (by rfl) ?_ (by assumption) ?_
              rotate_left
              · ((intro w hSw); (try dsimp only at hSw); go_simp; (try with_reducible rfl))
              try simp only [Act.put, List.setIfInBounds_toArray, List.set_cons_zero, List.set_cons_succ]
              refine rgTake (i := 6) (d := 37) (v := ?_) rfl rfl (by kernel_rfl) (by kernel_rfl) (by kernel_rfl) (fun _ _ _ h => h) (by rfl) ?_ (by assumption) ?_
              rotate_left
              · ((intro w hSw); (try dsimp only at hSw); go_simp; (try with_reducible rfl))
              try simp only [Act.put, List.setIfInBounds_toArray, List.set_cons_zero, List.set_cons_succ]
              refine rgTake (i := 7) (d := 38) (v := ?_) rfl rfl (by kernel_rfl) (by kernel_rfl) (by kernel_rfl) (fun _ _ _ h => h) (by rfl) ?_ (by assumption) ?_
              rotate_left
              · ((intro w hSw); (try dsimp only at hSw); go_simp; (try with_reducible rfl))
              try simp only [Act.put, List.setIfInBounds_toArray, List.set_cons_zero, List.set_cons_succ]
              refine rgTake (i := 8) (d := 39) (v := ?_) rfl rfl (by kernel_rfl) (by kernel_rfl) (by kernel_rfl) (fun _ _ _ h => h) (by rfl) ?_ (by assumption) ?_
              rotate_left
              · ((intro w hSw); (try dsimp only at hSw); (have s0 := SC.out _ hSw; have s1 := CC.out _ (G.trans (hSw.mono G.size))); go_simp; (try with_reducible rfl))
              try simp only [Act.put, List.setIfInBounds_toArray, List.set_cons_zero, List.set_cons_succ]
              refine rgTake (i := 9) (d := 40) (v := ?_) rfl rfl (by kernel_rfl) (by kernel_rfl) (by kernel_rfl) (fun _ _ _ h => h) (by rfl) ?_ (by assumption) ?_
              rotate_left
              · ((intro w hSw); (try dsimp only at hSw); go_simp; (try with_reducible rfl))
              try simp only [Act.put, List.setIfInBounds_toArray, List.set_cons_zero, List.set_cons_succ]
              refine rgTake (i := 10) (d := 41) (v := ?_) rfl rfl (by kernel_rfl) (by kernel_rfl) (by kernel_rfl) (fun _ _ _ h => h) (by rfl) ?_ (by assumption) ?_
              rotate_left
              · ((intro w hSw); (try dsimp only at hSw); go_simp; (try with_reducible rfl))
              try simp only [Act.put, List.setIfInBounds_toArray, List.set_cons_zero, List.set_cons_succ]
              refine rgTake (i := 11) (d := 42) (v := ?_) rfl rfl (by kernel_rfl) (by kernel_rfl) (by kernel_rfl) (fun _ _ _ h => h) (by rfl) ?_ (by assumption) ?_
              rotate_left
              · ((intro w hSw); (try dsimp only at hSw); go_simp; (try with_reducible rfl))
              try simp only [Act.put, List.setIfInBounds_toArray, List.set_cons_zero, List.set_cons_succ]
              refine rgTake (i := 12) (d := 43) (v := ?_) rfl rfl (by kernel_rfl) (by kernel_rfl) (by kernel_rfl) (fun _ _ _ h => h) (by rfl) ?_ (by assumption) ?_
              rotate_left
              · ((intro w hSw); (try dsimp only at hSw); go_simp; (try with_reducible rfl))
              try simp only [Act.put, List.setIfInBounds_toArray, List.set_cons_zero, List.set_cons_succ]
              refine rgTake (i := 13) (d := 44) (v := ?_) rfl rfl (by kernel_rfl) (by kernel_rfl) (by kernel_rfl) (fun _ _ _ h => h) (by rfl) ?_ (by assumption) ?_
              rotate_left
              · ((intro w hSw); (try dsimp only at hSw); (have s0 := SC.out _ hSw; have s1 := CC.out _ (G.trans (hSw.mono G.size))); go_simp; (try with_reducible rfl))
              try simp only [Act.put, List.setIfInBounds_toArray, List.set_cons_zero, List.set_cons_succ]
              refine rgTake (i := 14) (d := 45) (v := ?_) rfl rfl (by kernel_rfl) (by kernel_rfl) (by kernel_rfl) (fun _ _ _ h => h) (by rfl) ?_ (by assumption) ?_
              rotate_left
              · ((intro w hSw); (try dsimp only at hSw); go_simp; (try with_reducible rfl))
              try simp only [Act.put, List.setIfInBounds_toArray, List.set_cons_zero, List.set_cons_succ]
              refine rgTake (i := 15) (d := 46) (v := ?_) rfl rfl (by kernel_rfl) (by kernel_rfl) (by kernel_rfl) (fun _ _ _ h => h) (by rfl) ?_ (by assumption) ?_
              rotate_left
              · ((intro w hSw); (try dsimp only at hSw); go_simp; (try with_reducible rfl))
              try simp only [Act.put, List.setIfInBounds_toArray, List.set_cons_zero, List.set_cons_succ]
              refine wpAnyH_done (by kernel_rfl) ?_ _
              have HINS := Lib.hid (HI.out.2 kX HEQ.out)
              replace hown := own_below hown hHeld
              replace G := G.trans (hHeld.mono G.size)
              clear hown1 G1 hHeld HI SC
              go_wp2_with fail
              go_roundw
              case rel => exact ⟨j + 1, m, X, _, cp, by omega, by go_num, HINS.out, by omega, rfl, hown, G⟩
              case measure => simp [intOf]; omega
          · have HCM := Lib.hid hcmp
            have hq8 : Op.bytesLess X[k].toList c.toList = true := hcmp
            go_upto_region 6 with (fail)
            refine wp_region_held_drew (S := fun w' => Below wr.heap.size wr w') (by kernel_rfl) ?_ (fun hHeld => ?_)
            · (try dsimp only)
              exact (Below.refl _ _).drew
            refine rgTake (i := 0) (d := 13) (v := ?_) rfl rfl (by kernel_rfl) (by kernel_rfl) (by kernel_rfl) (fun _ _ _ h => h) (by rfl) ?_ (by assumption) ?_
            rotate_left
            · ((intro w hSw); (try dsimp only at hSw); go_simp; (try with_reducible rfl))
            try simp only [Act.put, List.setIfInBounds_toArray, List.set_cons_zero, List.set_cons_succ]
            refine rgTake (i := 1) (d := 14) (v := ?_) rfl rfl (by kernel_rfl) (by kernel_rfl) (by kernel_rfl) (fun _ _ _ h => h) (by rfl) ?_ (by assumption) ?_
            rotate_left
            · ((intro w hSw); (try dsimp only at hSw); go_simp; (try with_reducible rfl))
            try simp only [Act.put, List.setIfInBounds_toArray, List.set_cons_zero, List.set_cons_succ]
            refine rgTake (i := 2) (d := 15) (v := ?_) rfl rfl (by kernel_rfl) (by kernel_rfl) (by kernel_rfl) (fun _ _ _ h => h) (by rfl) ?_ (by assumption) ?_
            rotate_left
            · ((intro w hSw); (try dsimp only at hSw); go_simp; (try with_reducible rfl))
            try simp only [Act.put, List.setIfInBounds_toArray, List.set_cons_zero, List.set_cons_succ]
            refine rgTake (i := 3) (d := 16) (v := ?_) rfl rfl (by kernel_rfl) (by kernel_rfl) (by kernel_rfl) (fun _ _ _ h => h) (by rfl) ?_ (by assumption) ?_
            rotate_left
            · ((intro w hSw); (try dsimp only at hSw); go_simp; (try with_reducible rfl))
            try simp only [Act.put, List.setIfInBounds_toArray, List.set_cons_zero, List.set_cons_succ]
            refine rgTake (i := 4) (d := 17) (v := ?_) rfl rfl (by kernel_rfl) (by kernel_rfl) (by kernel_rfl) (fun _ _ _ h => h) (by rfl) ?_ (by assumption) ?_
            rotate_left
            · ((intro w hSw); (try dsimp only at hSw); go_simp; (try with_reducible rfl))
            try simp only [Act.put, List.setIfInBounds_toArray, List.set_cons_zero, List.set_cons_succ]
            refine rgTake (i := 5) (d := 18) (v := ?_) rfl rfl (by kernel_rfl) (by kernel_rfl) (by kernel_rfl) (fun _ _ _ h => h) (by rfl) ?_ (by assumption) ?_
            rotate_left
            · ((intro w hSw); (try dsimp only at hSw); go_simp; (try with_reducible rfl))
            try simp only [Act.put, List.setIfInBounds_toArray, List.set_cons_zero, List.set_cons_succ]
            refine rgTake (i := 6) (d := 19) (v := ?_) rfl rfl (by kernel_rfl) (by kernel_rfl) (by kernel_rfl) (fun _ _ _ h => h) (by rfl) ?_ (by assumption) ?_
            rotate_left
            · ((intro w hSw); (try dsimp only at hSw); go_simp; (try with_reducible rfl))
            try simp only [Act.put, List.setIfInBounds_toArray, List.set_cons_zero, List.set_cons_succ]
            refine rgTake (i := 7) (d := 20) (v := ?_) rfl rfl (by kernel_rfl) (by kernel_rfl) (by kernel_rfl) (fun _ _ _ h => h) (by rfl) ?_ (by assumption) ?_
            rotate_left
            · ((intro w hSw); (try dsimp only at hSw); go_simp; (try with_reducible rfl))
            try simp only [Act.put, List.setIfInBounds_toArray, List.set_cons_zero, List.set_cons_succ]
            refine rgTake (i := 8) (d := 21) (v := ?_) rfl rfl (by kernel_rfl) (by kernel_rfl) (by kernel_rfl) (fun _ _ _ h => h) (by rfl) ?_ (by assumption) ?_
            rotate_left
            · ((intro w hSw); (try dsimp only at hSw); (have s0 := SC.out _ hSw; have s1 := CC.out _ (G.trans (hSw.mono G.size))); go_simp; (try with_reducible rfl))
            try simp only [Act.put, List.setIfInBounds_toArray, List.set_cons_zero, List.set_cons_succ]
            refine rgTake (i := 9) (d := 22) (v := ?_) rfl rfl (by kernel_rfl) (by kernel_rfl) (by kernel_rfl) (fun _ _ _ h => h) (by rfl) ?_ (by assumption) ?_
            rotate_left
            · ((intro w hSw); (try dsimp only at hSw); go_simp; (try with_reducible rfl))
            try simp only [Act.put, List.setIfInBounds_toArray, List.set_cons_zero, List.set_cons_succ]
            refine rgTake (i := 10) (d := 23) (v := ?_) rfl rfl (by kernel_rfl) (by kernel_rfl) (by kernel_rfl) (fun _ _ _ h => h) (by rfl) ?_ (by assumption) ?_
            rotate_left
            · ((intro w hSw); (try dsimp only at hSw); go_simp; (try with_reducible rfl))
            try simp only [Act.put, List.setIfInBounds_toArray, List.set_cons_zero, List.set_cons_succ]
            refine rgTake (i := 11) (d := 24) (v := ?_) rfl rfl (by kernel_rfl) (by kernel_rfl) (by kernel_rfl) (fun _ _ _ h => h) (by rfl) ?_ (by assumption) ?_
            rotate_left
            · ((intro w hSw); (try dsimp only at hSw); go_simp; (try with_reducible rfl))
            try simp only [Act.put, List.setIfInBounds_toArray, List.set_cons_zero, List.set_cons_succ]
            refine rgTake (i := 12) (d := 25) (v := ?_) rfl rfl (by kernel_rfl) (by kernel_rfl) (by kernel_rfl) (fun _ _ _ h => h) (by rfl) ?_ (by assumption) ?_
            rotate_left
            · ((intro w hSw); (try dsimp only at hSw); go_simp; (try with_reducible rfl))
            try simp only [Act.put, List.setIfInBounds_toArray, List.set_cons_zero, List.set_cons_succ]
            refine rgTake (i := 13) (d := 26) (v := ?_) rfl rfl (by kernel_rfl) (by kernel_rfl) (by kernel_rfl) (fun _ _ _ h => h) (by rfl) ?_ (by assumption) ?_
            rotate_left
            · ((intro w hSw); (try dsimp only at hSw); (have s0 := SC.out _ hSw; have s1 := CC.out _ (G.trans (hSw.mono G.size))); go_simp; (try with_reducible rfl))
            try simp only [Act.put, List.setIfInBounds_toArray, List.set_cons_zero, List.set_cons_succ]
            refine rgTake (i := 14) (d := 27) (v := ?_) rfl rfl (by kernel_rfl) (by kernel_rfl) (by kernel_rfl) (fun _ _ _ h => h) (by rfl) ?_ (by assumption) ?_
            rotate_left
            · ((intro w hSw); (try dsimp only at hSw); go_simp; (try with_reducible rfl))
            try simp only [Act.put, List.setIfInBounds_toArray, List.set_cons_zero, List.set_cons_succ]
            refine rgTake (i := 15) (d := 28) (v := ?_) rfl rfl (by kernel_rfl) (by kernel_rfl) (by kernel_rfl) (fun _ _ _ h => h) (by rfl) ?_ (by assumption) ?_
            rotate_left
            · ((intro w hSw); (try dsimp only at hSw); go_simp; (try with_reducible rfl))
            try simp only [Act.put, List.setIfInBounds_toArray, List.set_cons_zero, List.set_cons_succ]
            refine wpAnyH_done (by kernel_rfl) ?_ _
            replace hown := own_below hown hHeld
            replace G := G.trans (hHeld.mono G.size)
            go_wp2_with fail
            go_roundw
            case rel => exact ⟨k + 1, by omega, by go_num, (show ∀ (e : Nat) (he : e < X.length), e < k + 1 → ltB X[e] c = true from fun e he hek => by
              by_cases ee : e = k
              · subst ee; exact HCM.out
              · exact HN.out e he (by omega)), hown, G⟩
            case measure => simp [intOf]; omega
        · obtain rfl : k = m := by omega
          have hkk : ¬ (k : Int) < (k : Int) := by omega
          have hkd : decide ((k : Int) < (k : Int)) = false := by simp
          have hke : ((k : Int) == (k : Int)) = true := by simp
          have HINS := Lib.hid ((HINS0.out k (Nat.le_refl _) HN.out (fun h => by rw [HXL.out] at h; omega)).1 (fun h => by rw [HXL.out] at h; omega))
          go_upto_region 6 with (fail)
          refine wp_region_held_drew (S := fun w' => Below wr.heap.size wr w') (by kernel_rfl) ?_ (fun hHeld => ?_)
          · (try dsimp only)
            exact (Below.refl _ _).drew
          refine rgTake (i := 0) (d := 13) (v := ?_) rfl rfl (by kernel_rfl) (by kernel_rfl) (by kernel_rfl) (fun _ _ _ h => h) (by rfl) ?_ (by assumption) ?_
          rotate_left
          · ((intro w hSw); (try dsimp only at hSw); go_simp; (try with_reducible rfl))
          try simp only [Act.put, List.setIfInBounds_toArray, List.set_cons_zero, List.set_cons_succ]
          refine rgTake (i := 1) (d := 14) (v := ?_) rfl rfl (by kernel_rfl) (by kernel_rfl) (by kernel_rfl) (fun _ _ _ h => h) (by rfl) ?_ (by assumption) ?_
          rotate_left
          · ((intro w hSw); (try dsimp only at hSw); go_simp; (try with_reducible rfl))
          try simp only [Act.put, List.setIfInBounds_toArray, List.set_cons_zero, List.set_cons_succ]
          refine rgTake (i := 2) (d := 15) (v := ?_) rfl rfl (by kernel_rfl) (by kernel_rfl) (by kernel_rfl) (fun _ _ _ h => h) (by rfl) ?_ (by assumption) ?_
          rotate_left
          · ((intro w hSw); (try dsimp only at hSw); go_simp; (try with_reducible rfl))
          try simp only [Act.put, List.setIfInBounds_toArray, List.set_cons_zero, List.set_cons_succ]
          refine rgTake (i := 3) (d := 16) (v := ?_) rfl rfl (by kernel_rfl) (by kernel_rfl) (by kernel_rfl) (fun _ _ _ h => h) (by rfl) ?_ (by assumption) ?_
          rotate_left
          · ((intro w hSw); (try dsimp only at hSw); go_simp; (try with_reducible rfl))
          try simp only [Act.put, List.setIfInBounds_toArray, List.set_cons_zero, List.set_cons_succ]
          refine rgTake (i := 4) (d := 17) (v := ?_) rfl rfl (by kernel_rfl) (by kernel_rfl) (by kernel_rfl) (fun _ _ _ h => h) (by rfl) ?_ (by assumption) ?_
          rotate_left
          · ((intro w hSw); (try dsimp only at hSw); go_simp; (try with_reducible rfl))
          try simp only [Act.put, List.setIfInBounds_toArray, List.set_cons_zero, List.set_cons_succ]
          refine rgSkip (i := 5) (d := 18) rfl rfl (by kernel_rfl) (by kernel_rfl) (by kernel_rfl) (fun _ _ _ h => h) (by rfl) (by assumption) ?_
          try simp only [Act.put, List.setIfInBounds_toArray, List.set_cons_zero, List.set_cons_succ]
          refine rgSkip (i := 6) (d := 19) rfl rfl (by kernel_rfl) (by kernel_rfl) (by kernel_rfl) (fun _ _ _ h => h) (by rfl) (by assumption) ?_
          try simp only [Act.put, List.setIfInBounds_toArray, List.set_cons_zero, List.set_cons_succ]
          refine rgSkip (i := 7) (d := 20) rfl rfl (by kernel_rfl) (by kernel_rfl) (by kernel_rfl) (fun _ _ _ h => h) (by rfl) (by assumption) ?_
          try simp only [Act.put, List.setIfInBounds_toArray, List.set_cons_zero, List.set_cons_succ]
          refine rgSkip (i := 8) (d := 21) rfl rfl (by kernel_rfl) (by kernel_rfl) (by kernel_rfl) (fun _ _ _ h => h) (by rfl) (by assumption) ?_
          try simp only [Act.put, List.setIfInBounds_toArray, List.set_cons_zero, List.set_cons_succ]
          refine rgSkip (i := 9) (d := 22) rfl rfl (by kernel_rfl) (by kernel_rfl) (by kernel_rfl) (fun _ _ _ h => h) (by rfl) (by assumption) ?_
          try simp only [Act.put, List.setIfInBounds_toArray, List.set_cons_zero, List.set_cons_succ]
          refine rgSkip (i := 10) (d := 23) rfl rfl (by kernel_rfl) (by kernel_rfl) (by kernel_rfl) (fun _ _ _ h => h) (by rfl) (by assumption) ?_
          try simp only [Act.put, List.setIfInBounds_toArray, List.set_cons_zero, List.set_cons_succ]
          refine rgSkip (i := 11) (d := 24) rfl rfl (by kernel_rfl) (by kernel_rfl) (by kernel_rfl) (fun _ _ _ h => h) (by rfl) (by assumption) ?_
          try simp only [Act.put, List.setIfInBounds_toArray, List.set_cons_zero, List.set_cons_succ]
          refine rgSkip (i := 12) (d := 25) rfl rfl (by kernel_rfl) (by kernel_rfl) (by kernel_rfl) (fun _ _ _ h => h) (by rfl) (by assumption) ?_
          try simp only [Act.put, List.setIfInBounds_toArray, List.set_cons_zero, List.set_cons_succ]
          refine rgSkip (i := 13) (d := 26) rfl rfl (by kernel_rfl) (by kernel_rfl) (by kernel_rfl) (fun _ _ _ h => h) (by rfl) (by assumption) ?_
          try simp only [Act.put, List.setIfInBounds_toArray, List.set_cons_zero, List.set_cons_succ]
          refine rgSkip (i := 14) (d := 27) rfl rfl (by kernel_rfl) (by kernel_rfl) (by kernel_rfl) (fun _ _ _ h => h) (by rfl) (by assumption) ?_
          try simp only [Act.put, List.setIfInBounds_toArray, List.set_cons_zero, List.set_cons_succ]
          refine rgTake (i := 15) (d := 28) (v := ?_) rfl rfl (by kernel_rfl) (by kernel_rfl) (by kernel_rfl) (fun _ _ _ h => h) (by rfl) ?_ (by assumption) ?_
          rotate_left
          · ((intro w hSw); (try dsimp only at hSw); go_simp; (try with_reducible rfl))
          try simp only [Act.put, List.setIfInBounds_toArray, List.set_cons_zero, List.set_cons_succ]
          refine wpAnyH_done (by kernel_rfl) ?_ _
          go_upto_region 8 with (fail)
          refine wp_region_held_drew (S := fun w' => Below wr.heap.size wr w') (by kernel_rfl) ?_ (fun hHeld => ?_)
          · (try dsimp only)
            exact hHeld.drew
          refine rgTake (i := 0) (d := 31) (v := ?_) rfl rfl (by kernel_rfl) (by kernel_rfl) (by kernel_rfl) (fun _ _ _ h => h) (by rfl) ?_ (by assumption) ?_
          rotate_left
          · ((intro w hSw); (try dsimp only at hSw); go_simp; (try with_reducible rfl))
          try simp only [Act.put, List.setIfInBounds_toArray, List.set_cons_zero, List.set_cons_succ]
          refine rgTake (i := 1) (d := 32) (v := ?_) rfl rfl (by kernel_rfl) (by kernel_rfl) (by kernel_rfl) (fun _ _ _ h => h) (by rfl) ?_ (by assumption) ?_
          rotate_left
          · ((intro w hSw); (try dsimp only at hSw); go_simp; (try with_reducible rfl))
          try simp only [Act.put, List.setIfInBounds_toArray, List.set_cons_zero, List.set_cons_succ]
          refine rgTake (i := 2) (d := 33) (v := ?_) rfl rfl (by kernel_rfl) (by kernel_rfl) (by kernel_rfl) (fun _ _ _ h => h) (by rfl) ?_ (by assumption) ?_
          rotate_left
          · ((intro w hSw); (try dsimp only at hSw); go_simp; (try with_reducible rfl))
          try simp only [Act.put, List.setIfInBounds_toArray, List.set_cons_zero, List.set_cons_succ]
          refine rgTake (i := 3) (d := 34) (v := ?_) rfl rfl (by kernel_rfl) (by kernel_rfl) (by kernel_rfl) (fun _ _ _ h => h) (by rfl) ?_ (by assumption) ?_
          rotate_left
          · ((intro w hSw); (try dsimp only at hSw); go_simp; (try with_reducible rfl))
          try simp only [Act.put, List.setIfInBounds_toArray, List.set_cons_zero, List.set_cons_succ]
          refine rgTake (i := 4) (d := 35) (v := ?_) rfl rfl (by kernel_rfl) (by kernel_rfl) (by kernel_rfl) (fun _ _ _ h => h) (by rfl) ?_ (by assumption) ?_
          rotate_left
          · ((intro w hSw); (try dsimp only at hSw); go_simp; (try with_reducible rfl))
          try simp only [Act.put, List.setIfInBounds_toArray, List.set_cons_zero, List.set_cons_succ]
          refine rgSkip (i := 5) (d := 36) rfl rfl (by kernel_rfl) (by kernel_rfl) (by kernel_rfl) (fun _ _ _ h => h) (by rfl) (by assumption) ?_
          try simp only [Act.put, List.setIfInBounds_toArray, List.set_cons_zero, List.set_cons_succ]
          refine rgSkip (i := 6) (d := 37) rfl rfl (by kernel_rfl) (by kernel_rfl) (by kernel_rfl) (fun _ _ _ h => h) (by rfl) (by assumption) ?_
          try simp only [Act.put, List.setIfInBounds_toArray, List.set_cons_zero, List.set_cons_succ]
          refine rgSkip (i := 7) (d := 38) rfl rfl (by kernel_rfl) (by kernel_rfl) (by kernel_rfl) (fun _ _ _ h => h) (by rfl) (by assumption) ?_
          try simp only [Act.put, List.setIfInBounds_toArray, List.set_cons_zero, List.set_cons_succ]
          refine rgSkip (i := 8) (d := 39) rfl rfl (by kernel_rfl) (by kernel_rfl) (by kernel_rfl) (fun _ _ _ h => h) (by rfl) (by assumption) ?_
          try simp only [Act.put, List.setIfInBounds_toArray, List.set_cons_zero, List.set_cons_succ]
          refine rgSkip (i := 9) (d := 40) rfl rfl (by kernel_rfl) (by kernel_rfl) (by kernel_rfl) (fun _ _ _ h => h) (by rfl) (by assumption) ?_
          try simp only [Act.put, List.setIfInBounds_toArray, List.set_cons_zero, List.set_cons_succ]
          refine rgSkip (i := 10) (d := 41) rfl rfl (by kernel_rfl) (by kernel_rfl) (by kernel_rfl) (fun _ _ _ h => h) (by rfl) (by assumption) ?_
          try simp only [Act.put, List.setIfInBounds_toArray, List.set_cons_zero, List.set_cons_succ]
          refine rgSkip (i := 11) (d := 42) rfl rfl (by kernel_rfl) (by kernel_rfl) (by kernel_rfl) (fun _ _ _ h => h) (by rfl) (by assumption) ?_
          try simp only [Act.put, List.setIfInBounds_toArray, List.set_cons_zero, List.set_cons_succ]
          refine rgSkip (i := 12) (d := 43) rfl rfl (by kernel_rfl) (by kernel_rfl) (by kernel_rfl) (fun _ _ _ h => h) (by rfl) (by assumption) ?_
          try simp only [Act.put, List.setIfInBounds_toArray, List.set_cons_zero, List.set_cons_succ]
          refine rgSkip (i := 13) (d := 44) rfl rfl (by kernel_rfl) (by kernel_rfl) (by kernel_rfl) (fun _ _ _ h => h) (by rfl) (by assumption) ?_
          try simp only [Act.put, List.setIfInBounds_toArray, List.set_cons_zero, List.set_cons_succ]
          refine rgSkip (i := 14) (d := 45) rfl rfl (by kernel_rfl) (by kernel_rfl) (by kernel_rfl) (fun _ _ _ h => h) (by rfl) (by assumption) ?_
          try simp only [Act.put, List.setIfInBounds_toArray, List.set_cons_zero, List.set_cons_succ]
          refine rgTake (i := 15) (d := 46) (v := ?_) rfl rfl (by kernel_rfl) (by kernel_rfl) (by kernel_rfl) (fun _ _ _ h => h) (by rfl) ?_ (by assumption) ?_
          rotate_left
          · ((intro w hSw); (try dsimp only at hSw); go_simp; (try with_reducible rfl))
          try simp only [Act.put, List.setIfInBounds_toArray, List.set_cons_zero, List.set_cons_succ]
          refine wpAnyH_done (by kernel_rfl) ?_ _
          replace hown := own_below hown hHeld
          replace G := G.trans (hHeld.mono G.size)
          clear HN HINS0 hHeld hkk hkd hke
          go_upto_region 9 with (fail)
          generalize wr.drew.drew = wx at *
          have ROWN := Lib.hid (Rd.of_own hown)
          have HRI := Lib.hid (show strs (X.take k) ++ [Value.string c] = strs (X.take k ++ c :: X.drop k) by rw [List.drop_of_length_le (by rw [HXL.out]; exact Nat.le_refl _)]; simp [strs])
          have EK := Lib.hid (show (0 : Nat) = 0 from rfl)
          by_cases hcq2 : cp = k
          · subst hcq2
            refine wp_region_held_drew (S := fun w' => Below wx.heap.size wx w') (by kernel_rfl) ?_ (fun hHeld => ?_)
            · (try dsimp only)
              first | exact (Below.refl _ _).drew | exact hHeld.alloc hHeld.size _
            refine rgTake (i := 1) (d := 48) (v := ?_) rfl rfl (by kernel_rfl) (by kernel_rfl) (by kernel_rfl) (fun _ _ _ h => h) (by rfl) ?_ (by assumption) ?_
            rotate_left
            · ((intro w hSw); (try dsimp only at hSw); go_simp; (try with_reducible rfl))
            try simp only [Act.put, List.setIfInBounds_toArray, List.set_cons_zero, List.set_cons_succ]
            refine rgTake (i := 2) (d := 49) (v := ?_) rfl rfl (by kernel_rfl) (by kernel_rfl) (by kernel_rfl) (fun _ _ _ h => h) (by rfl) ?_ (by assumption) ?_
            rotate_left
            · ((intro w hSw); (try dsimp only at hSw); go_simp; (try with_reducible rfl))
            try simp only [Act.put, List.setIfInBounds_toArray, List.set_cons_zero, List.set_cons_succ]
            refine rgTake (i := 3) (d := 50) (v := ?_) rfl rfl (by kernel_rfl) (by kernel_rfl) (by kernel_rfl) (fun _ _ _ h => h) (by rfl) ?_ (by assumption) ?_
            rotate_left
            · ((intro w hSw); (try dsimp only at hSw); go_simp; (try with_reducible rfl))
            try simp only [Act.put, List.setIfInBounds_toArray, List.set_cons_zero, List.set_cons_succ]
            refine rgTake (i := 5) (d := 52) (v := ?_) rfl rfl (by kernel_rfl) (by kernel_rfl) (by kernel_rfl) (fun _ _ _ h => h) (by rfl) ?_ (by assumption) ?_
            rotate_left
            · ((intro w hSw); (try dsimp only at hSw); go_simp; (try with_reducible rfl))
            try simp only [Act.put, List.setIfInBounds_toArray, List.set_cons_zero, List.set_cons_succ]
            refine rgTake (i := 6) (d := 53) (v := ?_) rfl rfl (by kernel_rfl) (by kernel_rfl) (by kernel_rfl) (fun _ _ _ h => h) (by rfl) ?_ (by assumption) ?_
            rotate_left
            · ((intro w hSw); (try dsimp only at hSw); go_simp; (try with_reducible rfl))
            try simp only [Act.put, List.setIfInBounds_toArray, List.set_cons_zero, List.set_cons_succ]
            refine rgTake (i := 7) (d := 54) (v := ?_) rfl rfl (by kernel_rfl) (by kernel_rfl) (by kernel_rfl) (fun _ _ _ h => h) (by rfl) ?_ (by assumption) ?_
            rotate_left
            · ((intro w hSw); (try dsimp only at hSw); go_simp; (try with_reducible rfl))
            try simp only [Act.put, List.setIfInBounds_toArray, List.set_cons_zero, List.set_cons_succ]
            refine rgTake (i := 8) (d := 55) (v := ?_) rfl rfl (by kernel_rfl) (by kernel_rfl) (by kernel_rfl) (fun _ _ _ h => h) (by rfl) ?_ (by assumption) ?_
            rotate_left
            · ((intro w hSw); (try dsimp only at hSw); go_simp; (try with_reducible rfl))
            try simp only [Act.put, List.setIfInBounds_toArray, List.set_cons_zero, List.set_cons_succ]
            refine rgTake (i := 9) (d := 56) (v := ?_) rfl rfl (by kernel_rfl) (by kernel_rfl) (by kernel_rfl) (fun _ _ _ h => h) (by rfl) ?_ (by assumption) ?_
            rotate_left
            · ((intro w hSw); (try dsimp only at hSw); (have z1 := CC.out _ (G.trans (hSw.mono G.size))); go_simp; (try with_reducible rfl))
            try simp only [Act.put, List.setIfInBounds_toArray, List.set_cons_zero, List.set_cons_succ]
            refine rgTake (i := 12) (d := 59) (v := ?_) rfl rfl (by kernel_rfl) (by kernel_rfl) (by kernel_rfl) (fun _ _ _ h => h) (by rfl) ?_ (by assumption) ?_
            rotate_left
            · ((intro w hSw); (try dsimp only at hSw); go_simp; (try with_reducible rfl))
            try simp only [Act.put, List.setIfInBounds_toArray, List.set_cons_zero, List.set_cons_succ]
            refine rgTake (i := 13) (d := 60) (v := ?_) rfl rfl (by kernel_rfl) (by kernel_rfl) (by kernel_rfl) (fun _ _ _ h => h) (by rfl) ?_ (by assumption) ?_
            rotate_left
            · ((intro w hSw); (try dsimp only at hSw); go_simp; (try with_reducible rfl))
            try simp only [Act.put, List.setIfInBounds_toArray, List.set_cons_zero, List.set_cons_succ]
            refine rgTake (i := 14) (d := 61) (v := ?_) rfl rfl (by kernel_rfl) (by kernel_rfl) (by kernel_rfl) (fun _ _ _ h => h) (by rfl) ?_ (by assumption) ?_
            rotate_left
            · ((intro w hSw); (try dsimp only at hSw); go_simp; (try with_reducible rfl))
            try simp only [Act.put, List.setIfInBounds_toArray, List.set_cons_zero, List.set_cons_succ]
            refine wpAnyH_ready (rs := [0, 10]) (by kernel_rfl) (by simp) ?_
            refine AllReadyH.cons rfl (fun K hK => ?_) ?_
            ·
              go_simp
              refine hK.out _ _ ?_ (fun hHeld => ?_)
              · (try dsimp only)
                first | exact (Below.refl _ _).drew | exact hHeld.alloc hHeld.size _
              clear hK K
              try simp only [Act.put, List.setIfInBounds_toArray, List.set_cons_zero, List.set_cons_succ]
              refine wpAnyH_ready (rs := [4, 10]) (by kernel_rfl) (by simp) ?_
              refine AllReadyH.cons rfl (fun K hK => ?_) ?_
              ·
                first | (refine step_append_rd rfl _ _ 53 rfl wx.heap.size 9 i0 (.string ByteArray.empty) 1 16 Try.underlying53 hi0 hz0 hz1 hz2 rfl (by decide) (.slice (some ⟨wx.heap.size, 0, none⟩) 0 0) 0 [] rfl ((Blk.new wx.drew 9 []).own (size := 1) (n := 0) (Nat.le_refl _) rfl (Nat.zero_le _)) _ _ _ _ _ rfl ((ROWN.out.below hHeld).takes hk) (strs_one _) (by simp only [maxLen]; omega) (by omega) hHeld.size ?_; intro A8 c8 w8 h8 own8 grow8 at8; simp only [Nat.zero_add, List.nil_append] at h8 own8 at8 ⊢; have V8 := own8) | (refine step_append_rd rfl _ _ 53 rfl wx.heap.size 9 i0 (.string ByteArray.empty) 1 16 Try.underlying53 hi0 hz0 hz1 hz2 rfl (by decide) (.slice (some ⟨wx.heap.size, 0, none⟩) 0 0) 0 [] rfl ((two_newT wx.drew 9 9 [] [.string c]).1.own (size := 1) (n := 0) (Nat.le_refl _) rfl (Nat.zero_le _)) _ _ _ _ _ rfl ((ROWN.out.below hHeld).takes hk) (strs_one _) (by simp only [maxLen]; omega) (by omega) hHeld.size ?_; intro A8 c8 w8 h8 own8 grow8 at8; simp only [Nat.zero_add, List.nil_append] at h8 own8 at8 ⊢; have V8 : Blk w8 (wx.heap.size + 1) 9 [.string c] := ((two_newT wx.drew 9 9 [] [.string c]).2).grown grow8 (by simp [Value.ownBlock])) | (refine step_append_rd rfl _ _ 53 rfl wx.heap.size 9 i0 (.string ByteArray.empty) 1 16 Try.underlying53 hi0 hz0 hz1 hz2 rfl (by decide) (.slice (some ⟨wx.heap.size + 1, 0, none⟩) 0 0) 0 [] rfl ((two_newT wx.drew 9 9 [.string c] []).2.own (size := 1) (n := 0) (Nat.le_succ _) rfl (Nat.zero_le _)) _ _ _ _ _ rfl ((ROWN.out.below hHeld).takes hk) (strs_one _) (by simp only [maxLen]; omega) (by omega) hHeld.size ?_; intro A8 c8 w8 h8 own8 grow8 at8; simp only [Nat.zero_add, List.nil_append] at h8 own8 at8 ⊢; have V8 : Blk w8 (wx.heap.size) 9 [.string c] := ((two_newT wx.drew 9 9 [.string c] []).1).grown grow8 (by simp [Value.ownBlock]))
                refine hK.out _ _ ?_ (fun hHeld => ?_)
                · (try dsimp only)
                  exact hHeld.grown grow8 hHeld.size (fun k hk => by simp [Value.ownBlock] at hk; omega)
                clear hK K
                try simp only [Act.put, List.setIfInBounds_toArray, List.set_cons_zero, List.set_cons_succ]
                refine wpAnyH_ready (rs := [10]) (by kernel_rfl) (by simp) ?_
                refine AllReadyH.cons rfl (fun K hK => ?_) AllReadyH.nil
                go_simp
                refine hK.out _ _ ?_ (fun hHeld => ?_)
                · (try dsimp only)
                  first | exact (Below.refl _ _).drew | exact hHeld.alloc hHeld.size _
                clear hK K
                try simp only [Act.put, List.setIfInBounds_toArray, List.set_cons_zero, List.set_cons_succ]
                refine wpAnyH_ready (rs := [11]) (by kernel_rfl) (by simp) ?_
                refine AllReadyH.cons rfl (fun K hK => ?_) AllReadyH.nil
                first | (refine step_append_rd rfl _ _ 53 rfl wx.heap.size 9 i0 (.string ByteArray.empty) 1 16 Try.underlying53 hi0 hz0 hz1 hz2 rfl (by decide) (.slice A8 cp c8) cp (strs (X.take cp)) rfl (own8) _ _ _ _ _ rfl (V8.rd (size := 1) (n := 1) rfl) (fun u hu => by simp at hu; subst hu; rfl) (by simp only [maxLen]; omega) (by omega) hHeld.size ?_; intro A7 c7 w7 h7 own7 grow7 at7) | (refine step_append_rd rfl _ _ 53 rfl wx.heap.size 9 i0 (.string ByteArray.empty) 1 16 Try.underlying53 hi0 hz0 hz1 hz2 rfl (by decide) (.slice A8 cp c8) cp (strs (X.take cp)) rfl (own8.alloc _) _ _ _ _ _ rfl ((Blk.new w8 9 [.string c]).rd (size := 1) (n := 1) rfl) (fun u hu => by simp at hu; subst hu; rfl) (by simp only [maxLen]; omega) (by omega) hHeld.size ?_; intro A7 c7 w7 h7 own7 grow7 at7)
                refine hK.out _ _ ?_ (fun hHeld => ?_)
                · (try dsimp only)
                  exact hHeld.grown grow7 hHeld.size (fun k hk => (own8.lt k hk).1)
                clear hK K
                try simp only [Act.put, List.setIfInBounds_toArray, List.set_cons_zero, List.set_cons_succ]
                refine wpAnyH_ready (rs := [15]) (by kernel_rfl) (by simp) ?_
                refine AllReadyH.cons rfl (fun K hK => ?_) AllReadyH.nil
                refine step_append_rd rfl _ _ 53 rfl wx.heap.size 9 i0 (.string ByteArray.empty) 1 16 Try.underlying53 hi0 hz0 hz1 hz2 rfl (by decide) (.slice A7 (cp + 1) c7) (cp + 1) (strs (X.take cp) ++ [.string c]) rfl (own7) _ _ _ _ _ rfl ((Rd.none_ : Rd _ wx.heap.size 1 _ 0 [])) (fun u hu => by cases hu) (by simp only [maxLen]; omega) (by omega) hHeld.size ?_; intro A9 c9 w9 h9 own9 grow9 at9; simp only [EK.out, Nat.add_zero, List.append_nil] at h9 own9 ⊢
                refine hK.out _ _ ?_ (fun hHeld => ?_)
                · (try dsimp only)
                  exact hHeld.grown grow9 hHeld.size (fun k hk => (own7.lt k hk).1)
                clear hK K
                try simp only [Act.put, List.setIfInBounds_toArray, List.set_cons_zero, List.set_cons_succ]
                refine rgTake (i := 16) (d := 3) (v := ?_) rfl rfl (by kernel_rfl) (by kernel_rfl) (by kernel_rfl) (fun _ _ _ h => h) (by rfl) ?_ (by assumption) ?_
                rotate_left
                · ((intro w hSw); (try dsimp only at hSw); go_simp; (try with_reducible rfl))
                try simp only [Act.put, List.setIfInBounds_toArray, List.set_cons_zero, List.set_cons_succ]
                refine wpAnyH_done (by kernel_rfl) ?_ _
                have OW2 := own_le own9 G.size
                have G9 := G.trans (hHeld.mono G.size)
                rw [HRI.out] at OW2
                clear own9 own7 own8 V8 hHeld
                go_wp2_with fail
                go_roundw
                case rel => exact ⟨j + 1, cp + 1, X.take cp ++ c :: X.drop cp, A9, c9, by omega, by go_num, HINS.out, by omega, rfl, OW2, G9⟩
                case measure => simp [intOf]; omega
              refine AllReadyH.cons rfl (fun K hK => ?_) ?_
              ·
                go_simp
                refine hK.out _ _ ?_ (fun hHeld => ?_)
                · (try dsimp only)
                  first | exact (Below.refl _ _).drew | exact hHeld.alloc hHeld.size _
                clear hK K
                try simp only [Act.put, List.setIfInBounds_toArray, List.set_cons_zero, List.set_cons_succ]
                refine wpAnyH_ready (rs := [4]) (by kernel_rfl) (by simp) ?_
                refine AllReadyH.cons rfl (fun K hK => ?_) AllReadyH.nil
                first | (refine step_append_rd rfl _ _ 53 rfl wx.heap.size 9 i0 (.string ByteArray.empty) 1 16 Try.underlying53 hi0 hz0 hz1 hz2 rfl (by decide) (.slice (some ⟨wx.heap.size, 0, none⟩) 0 0) 0 [] rfl ((Blk.new wx.drew 9 []).own (size := 1) (n := 0) (Nat.le_refl _) rfl (Nat.zero_le _)) _ _ _ _ _ rfl ((ROWN.out.below hHeld).takes hk) (strs_one _) (by simp only [maxLen]; omega) (by omega) hHeld.size ?_; intro A8 c8 w8 h8 own8 grow8 at8; simp only [Nat.zero_add, List.nil_append] at h8 own8 at8 ⊢; have V8 := own8) | (refine step_append_rd rfl _ _ 53 rfl wx.heap.size 9 i0 (.string ByteArray.empty) 1 16 Try.underlying53 hi0 hz0 hz1 hz2 rfl (by decide) (.slice (some ⟨wx.heap.size, 0, none⟩) 0 0) 0 [] rfl ((two_newT wx.drew 9 9 [] [.string c]).1.own (size := 1) (n := 0) (Nat.le_refl _) rfl (Nat.zero_le _)) _ _ _ _ _ rfl ((ROWN.out.below hHeld).takes hk) (strs_one _) (by simp only [maxLen]; omega) (by omega) hHeld.size ?_; intro A8 c8 w8 h8 own8 grow8 at8; simp only [Nat.zero_add, List.nil_append] at h8 own8 at8 ⊢; have V8 : Blk w8 (wx.heap.size + 1) 9 [.string c] := ((two_newT wx.drew 9 9 [] [.string c]).2).grown grow8 (by simp [Value.ownBlock])) | (refine step_append_rd rfl _ _ 53 rfl wx.heap.size 9 i0 (.string ByteArray.empty) 1 16 Try.underlying53 hi0 hz0 hz1 hz2 rfl (by decide) (.slice (some ⟨wx.heap.size + 1, 0, none⟩) 0 0) 0 [] rfl ((two_newT wx.drew 9 9 [.string c] []).2.own (size := 1) (n := 0) (Nat.le_succ _) rfl (Nat.zero_le _)) _ _ _ _ _ rfl ((ROWN.out.below hHeld).takes hk) (strs_one _) (by simp only [maxLen]; omega) (by omega) hHeld.size ?_; intro A8 c8 w8 h8 own8 grow8 at8; simp only [Nat.zero_add, List.nil_append] at h8 own8 at8 ⊢; have V8 : Blk w8 (wx.heap.size) 9 [.string c] := ((two_newT wx.drew 9 9 [.string c] []).1).grown grow8 (by simp [Value.ownBlock]))
                refine hK.out _ _ ?_ (fun hHeld => ?_)
                · (try dsimp only)
                  exact hHeld.grown grow8 hHeld.size (fun k hk => by simp [Value.ownBlock] at hk; omega)
                clear hK K
                try simp only [Act.put, List.setIfInBounds_toArray, List.set_cons_zero, List.set_cons_succ]
                refine wpAnyH_ready (rs := [11]) (by kernel_rfl) (by simp) ?_
                refine AllReadyH.cons rfl (fun K hK => ?_) AllReadyH.nil
                first | (refine step_append_rd rfl _ _ 53 rfl wx.heap.size 9 i0 (.string ByteArray.empty) 1 16 Try.underlying53 hi0 hz0 hz1 hz2 rfl (by decide) (.slice A8 cp c8) cp (strs (X.take cp)) rfl (own8) _ _ _ _ _ rfl (V8.rd (size := 1) (n := 1) rfl) (fun u hu => by simp at hu; subst hu; rfl) (by simp only [maxLen]; omega) (by omega) hHeld.size ?_; intro A7 c7 w7 h7 own7 grow7 at7) | (refine step_append_rd rfl _ _ 53 rfl wx.heap.size 9 i0 (.string ByteArray.empty) 1 16 Try.underlying53 hi0 hz0 hz1 hz2 rfl (by decide) (.slice A8 cp c8) cp (strs (X.take cp)) rfl (own8.alloc _) _ _ _ _ _ rfl ((Blk.new w8 9 [.string c]).rd (size := 1) (n := 1) rfl) (fun u hu => by simp at hu; subst hu; rfl) (by simp only [maxLen]; omega) (by omega) hHeld.size ?_; intro A7 c7 w7 h7 own7 grow7 at7)
                refine hK.out _ _ ?_ (fun hHeld => ?_)
                · (try dsimp only)
                  exact hHeld.grown grow7 hHeld.size (fun k hk => (own8.lt k hk).1)
                clear hK K
                try simp only [Act.put, List.setIfInBounds_toArray, List.set_cons_zero, List.set_cons_succ]
                refine wpAnyH_ready (rs := [15]) (by kernel_rfl) (by simp) ?_
                refine AllReadyH.cons rfl (fun K hK => ?_) AllReadyH.nil
                refine step_append_rd rfl _ _ 53 rfl wx.heap.size 9 i0 (.string ByteArray.empty) 1 16 Try.underlying53 hi0 hz0 hz1 hz2 rfl (by decide) (.slice A7 (cp + 1) c7) (cp + 1) (strs (X.take cp) ++ [.string c]) rfl (own7) _ _ _ _ _ rfl ((Rd.none_ : Rd _ wx.heap.size 1 _ 0 [])) (fun u hu => by cases hu) (by simp only [maxLen]; omega) (by omega) hHeld.size ?_; intro A9 c9 w9 h9 own9 grow9 at9; simp only [EK.out, Nat.add_zero, List.append_nil] at h9 own9 ⊢
                refine hK.out _ _ ?_ (fun hHeld => ?_)
                · (try dsimp only)
                  exact hHeld.grown grow9 hHeld.size (fun k hk => (own7.lt k hk).1)
                clear hK K
                try simp only [Act.put, List.setIfInBounds_toArray, List.set_cons_zero, List.set_cons_succ]
                refine rgTake (i := 16) (d := 3) (v := ?_) rfl rfl (by kernel_rfl) (by kernel_rfl) (by kernel_rfl) (fun _ _ _ h => h) (by rfl) ?_ (by assumption) ?_
                rotate_left
                · ((intro w hSw); (try dsimp only at hSw); go_simp; (try with_reducible rfl))
                try simp only [Act.put, List.setIfInBounds_toArray, List.set_cons_zero, List.set_cons_succ]
                refine wpAnyH_done (by kernel_rfl) ?_ _
                have OW2 := own_le own9 G.size
                have G9 := G.trans (hHeld.mono G.size)
                rw [HRI.out] at OW2
                clear own9 own7 own8 V8 hHeld
                go_wp2_with fail
                go_roundw
                case rel => exact ⟨j + 1, cp + 1, X.take cp ++ c :: X.drop cp, A9, c9, by omega, by go_num, HINS.out, by omega, rfl, OW2, G9⟩
                case measure => simp [intOf]; omega
              exact AllReadyH.nil
            refine AllReadyH.cons rfl (fun K hK => ?_) ?_
            ·
              go_simp
              refine hK.out _ _ ?_ (fun hHeld => ?_)
              · (try dsimp only)
                first | exact (Below.refl _ _).drew | exact hHeld.alloc hHeld.size _
              clear hK K
              try simp only [Act.put, List.setIfInBounds_toArray, List.set_cons_zero, List.set_cons_succ]
              refine wpAnyH_ready (rs := [0]) (by kernel_rfl) (by simp) ?_
              refine AllReadyH.cons rfl (fun K hK => ?_) AllReadyH.nil
              go_simp
              refine hK.out _ _ ?_ (fun hHeld => ?_)
              · (try dsimp only)
                first | exact (Below.refl _ _).drew | exact hHeld.alloc hHeld.size _
              clear hK K
              try simp only [Act.put, List.setIfInBounds_toArray, List.set_cons_zero, List.set_cons_succ]
              refine wpAnyH_ready (rs := [4]) (by kernel_rfl) (by simp) ?_
              refine AllReadyH.cons rfl (fun K hK => ?_) AllReadyH.nil
              first | (refine step_append_rd rfl _ _ 53 rfl wx.heap.size 9 i0 (.string ByteArray.empty) 1 16 Try.underlying53 hi0 hz0 hz1 hz2 rfl (by decide) (.slice (some ⟨wx.heap.size, 0, none⟩) 0 0) 0 [] rfl ((Blk.new wx.drew 9 []).own (size := 1) (n := 0) (Nat.le_refl _) rfl (Nat.zero_le _)) _ _ _ _ _ rfl ((ROWN.out.below hHeld).takes hk) (strs_one _) (by simp only [maxLen]; omega) (by omega) hHeld.size ?_; intro A8 c8 w8 h8 own8 grow8 at8; simp only [Nat.zero_add, List.nil_append] at h8 own8 at8 ⊢; have V8 := own8) | (refine step_append_rd rfl _ _ 53 rfl wx.heap.size 9 i0 (.string ByteArray.empty) 1 16 Try.underlying53 hi0 hz0 hz1 hz2 rfl (by decide) (.slice (some ⟨wx.heap.size, 0, none⟩) 0 0) 0 [] rfl ((two_newT wx.drew 9 9 [] [.string c]).1.own (size := 1) (n := 0) (Nat.le_refl _) rfl (Nat.zero_le _)) _ _ _ _ _ rfl ((ROWN.out.below hHeld).takes hk) (strs_one _) (by simp only [maxLen]; omega) (by omega) hHeld.size ?_; intro A8 c8 w8 h8 own8 grow8 at8; simp only [Nat.zero_add, List.nil_append] at h8 own8 at8 ⊢; have V8 : Blk w8 (wx.heap.size + 1) 9 [.string c] := ((two_newT wx.drew 9 9 [] [.string c]).2).grown grow8 (by simp [Value.ownBlock])) | (refine step_append_rd rfl _ _ 53 rfl wx.heap.size 9 i0 (.string ByteArray.empty) 1 16 Try.underlying53 hi0 hz0 hz1 hz2 rfl (by decide) (.slice (some ⟨wx.heap.size + 1, 0, none⟩) 0 0) 0 [] rfl ((two_newT wx.drew 9 9 [.string c] []).2.own (size := 1) (n := 0) (Nat.le_succ _) rfl (Nat.zero_le _)) _ _ _ _ _ rfl ((ROWN.out.below hHeld).takes hk) (strs_one _) (by simp only [maxLen]; omega) (by omega) hHeld.size ?_; intro A8 c8 w8 h8 own8 grow8 at8; simp only [Nat.zero_add, List.nil_append] at h8 own8 at8 ⊢; have V8 : Blk w8 (wx.heap.size) 9 [.string c] := ((two_newT wx.drew 9 9 [.string c] []).1).grown grow8 (by simp [Value.ownBlock]))
              refine hK.out _ _ ?_ (fun hHeld => ?_)
              · (try dsimp only)
                exact hHeld.grown grow8 hHeld.size (fun k hk => by simp [Value.ownBlock] at hk; omega)
              clear hK K
              try simp only [Act.put, List.setIfInBounds_toArray, List.set_cons_zero, List.set_cons_succ]
              refine wpAnyH_ready (rs := [11]) (by kernel_rfl) (by simp) ?_
              refine AllReadyH.cons rfl (fun K hK => ?_) AllReadyH.nil
              first | (refine step_append_rd rfl _ _ 53 rfl wx.heap.size 9 i0 (.string ByteArray.empty) 1 16 Try.underlying53 hi0 hz0 hz1 hz2 rfl (by decide) (.slice A8 cp c8) cp (strs (X.take cp)) rfl (own8) _ _ _ _ _ rfl (V8.rd (size := 1) (n := 1) rfl) (fun u hu => by simp at hu; subst hu; rfl) (by simp only [maxLen]; omega) (by omega) hHeld.size ?_; intro A7 c7 w7 h7 own7 grow7 at7) | (refine step_append_rd rfl _ _ 53 rfl wx.heap.size 9 i0 (.string ByteArray.empty) 1 16 Try.underlying53 hi0 hz0 hz1 hz2 rfl (by decide) (.slice A8 cp c8) cp (strs (X.take cp)) rfl (own8.alloc _) _ _ _ _ _ rfl ((Blk.new w8 9 [.string c]).rd (size := 1) (n := 1) rfl) (fun u hu => by simp at hu; subst hu; rfl) (by simp only [maxLen]; omega) (by omega) hHeld.size ?_; intro A7 c7 w7 h7 own7 grow7 at7)
              refine hK.out _ _ ?_ (fun hHeld => ?_)
              · (try dsimp only)
                exact hHeld.grown grow7 hHeld.size (fun k hk => (own8.lt k hk).1)
              clear hK K
              try simp only [Act.put, List.setIfInBounds_toArray, List.set_cons_zero, List.set_cons_succ]
              refine wpAnyH_ready (rs := [15]) (by kernel_rfl) (by simp) ?_
              refine AllReadyH.cons rfl (fun K hK => ?_) AllReadyH.nil
              refine step_append_rd rfl _ _ 53 rfl wx.heap.size 9 i0 (.string ByteArray.empty) 1 16 Try.underlying53 hi0 hz0 hz1 hz2 rfl (by decide) (.slice A7 (cp + 1) c7) (cp + 1) (strs (X.take cp) ++ [.string c]) rfl (own7) _ _ _ _ _ rfl ((Rd.none_ : Rd _ wx.heap.size 1 _ 0 [])) (fun u hu => by cases hu) (by simp only [maxLen]; omega) (by omega) hHeld.size ?_; intro A9 c9 w9 h9 own9 grow9 at9; simp only [EK.out, Nat.add_zero, List.append_nil] at h9 own9 ⊢
              refine hK.out _ _ ?_ (fun hHeld => ?_)
              · (try dsimp only)
                exact hHeld.grown grow9 hHeld.size (fun k hk => (own7.lt k hk).1)
              clear hK K
              try simp only [Act.put, List.setIfInBounds_toArray, List.set_cons_zero, List.set_cons_succ]
              refine rgTake (i := 16) (d := 3) (v := ?_) rfl rfl (by kernel_rfl) (by kernel_rfl) (by kernel_rfl) (fun _ _ _ h => h) (by rfl) ?_ (by assumption) ?_
              rotate_left
              · ((intro w hSw); (try dsimp only at hSw); go_simp; (try with_reducible rfl))
              try simp only [Act.put, List.setIfInBounds_toArray, List.set_cons_zero, List.set_cons_succ]
              refine wpAnyH_done (by kernel_rfl) ?_ _
              have OW2 := own_le own9 G.size
              have G9 := G.trans (hHeld.mono G.size)
              rw [HRI.out] at OW2
              clear own9 own7 own8 V8 hHeld
              go_wp2_with fail
              go_roundw
              case rel => exact ⟨j + 1, cp + 1, X.take cp ++ c :: X.drop cp, A9, c9, by omega, by go_num, HINS.out, by omega, rfl, OW2, G9⟩
              case measure => simp [intOf]; omega
            exact AllReadyH.nil
          · have hkc3 : (k : Int) ≤ (cp : Int) := by omega
            have hkc4 : k ≤ cp := by omega
            refine wp_region_held_drew (S := fun w' => Below wx.heap.size wx w') (by kernel_rfl) ?_ (fun hHeld => ?_)
            · (try dsimp only)
              first | exact (Below.refl _ _).drew | exact hHeld.alloc hHeld.size _
            refine rgTake (i := 1) (d := 48) (v := ?_) rfl rfl (by kernel_rfl) (by kernel_rfl) (by kernel_rfl) (fun _ _ _ h => h) (by rfl) ?_ (by assumption) ?_
            rotate_left
            · ((intro w hSw); (try dsimp only at hSw); go_simp; (try with_reducible rfl))
            try simp only [Act.put, List.setIfInBounds_toArray, List.set_cons_zero, List.set_cons_succ]
            refine rgTake (i := 2) (d := 49) (v := ?_) rfl rfl (by kernel_rfl) (by kernel_rfl) (by kernel_rfl) (fun _ _ _ h => h) (by rfl) ?_ (by assumption) ?_
            rotate_left
            · ((intro w hSw); (try dsimp only at hSw); go_simp; (try with_reducible rfl))
            try simp only [Act.put, List.setIfInBounds_toArray, List.set_cons_zero, List.set_cons_succ]
            refine rgTake (i := 3) (d := 50) (v := ?_) rfl rfl (by kernel_rfl) (by kernel_rfl) (by kernel_rfl) (fun _ _ _ h => h) (by rfl) ?_ (by assumption) ?_
            rotate_left
            · ((intro w hSw); (try dsimp only at hSw); go_simp; (try with_reducible rfl))
            try simp only [Act.put, List.setIfInBounds_toArray, List.set_cons_zero, List.set_cons_succ]
            refine rgTake (i := 5) (d := 52) (v := ?_) rfl rfl (by kernel_rfl) (by kernel_rfl) (by kernel_rfl) (fun _ _ _ h => h) (by rfl) ?_ (by assumption) ?_
            rotate_left
            · ((intro w hSw); (try dsimp only at hSw); go_simp; (try with_reducible rfl))
            try simp only [Act.put, List.setIfInBounds_toArray, List.set_cons_zero, List.set_cons_succ]
            refine rgTake (i := 6) (d := 53) (v := ?_) rfl rfl (by kernel_rfl) (by kernel_rfl) (by kernel_rfl) (fun _ _ _ h => h) (by rfl) ?_ (by assumption) ?_
            rotate_left
            · ((intro w hSw); (try dsimp only at hSw); go_simp; (try with_reducible rfl))
            try simp only [Act.put, List.setIfInBounds_toArray, List.set_cons_zero, List.set_cons_succ]
            refine rgTake (i := 7) (d := 54) (v := ?_) rfl rfl (by kernel_rfl) (by kernel_rfl) (by kernel_rfl) (fun _ _ _ h => h) (by rfl) ?_ (by assumption) ?_
            rotate_left
            · ((intro w hSw); (try dsimp only at hSw); go_simp; (try with_reducible rfl))
            try simp only [Act.put, List.setIfInBounds_toArray, List.set_cons_zero, List.set_cons_succ]
            refine rgTake (i := 8) (d := 55) (v := ?_) rfl rfl (by kernel_rfl) (by kernel_rfl) (by kernel_rfl) (fun _ _ _ h => h) (by rfl) ?_ (by assumption) ?_
            rotate_left
            · ((intro w hSw); (try dsimp only at hSw); go_simp; (try with_reducible rfl))
            try simp only [Act.put, List.setIfInBounds_toArray, List.set_cons_zero, List.set_cons_succ]
            refine rgTake (i := 9) (d := 56) (v := ?_) rfl rfl (by kernel_rfl) (by kernel_rfl) (by kernel_rfl) (fun _ _ _ h => h) (by rfl) ?_ (by assumption) ?_
            rotate_left
            · ((intro w hSw); (try dsimp only at hSw); (have z1 := CC.out _ (G.trans (hSw.mono G.size))); go_simp; (try with_reducible rfl))
            try simp only [Act.put, List.setIfInBounds_toArray, List.set_cons_zero, List.set_cons_succ]
            refine rgTake (i := 12) (d := 59) (v := ?_) rfl rfl (by kernel_rfl) (by kernel_rfl) (by kernel_rfl) (fun _ _ _ h => h) (by rfl) ?_ (by assumption) ?_
            rotate_left
            · ((intro w hSw); (try dsimp only at hSw); go_simp; (try with_reducible rfl))
            try simp only [Act.put, List.setIfInBounds_toArray, List.set_cons_zero, List.set_cons_succ]
            refine rgTake (i := 13) (d := 60) (v := ?_) rfl rfl (by kernel_rfl) (by kernel_rfl) (by kernel_rfl) (fun _ _ _ h => h) (by rfl) ?_ (by assumption) ?_
            rotate_left
            · ((intro w hSw); (try dsimp only at hSw); go_simp; (try with_reducible rfl))
            try simp only [Act.put, List.setIfInBounds_toArray, List.set_cons_zero, List.set_cons_succ]
            refine rgTake (i := 14) (d := 61) (v := ?_) rfl rfl (by kernel_rfl) (by kernel_rfl) (by kernel_rfl) (fun _ _ _ h => h) (by rfl) ?_ (by assumption) ?_
            rotate_left
            · ((intro w hSw); (try dsimp only at hSw); go_simp; (try with_reducible rfl))
            try simp only [Act.put, List.setIfInBounds_toArray, List.set_cons_zero, List.set_cons_succ]
            refine wpAnyH_ready (rs := [0, 10]) (by kernel_rfl) (by simp) ?_
            refine AllReadyH.cons rfl (fun K hK => ?_) ?_
            ·
              go_simp
              refine hK.out _ _ ?_ (fun hHeld => ?_)
              · (try dsimp only)
                first | exact (Below.refl _ _).drew | exact hHeld.alloc hHeld.size _
              clear hK K
              try simp only [Act.put, List.setIfInBounds_toArray, List.set_cons_zero, List.set_cons_succ]
              refine wpAnyH_ready (rs := [4, 10]) (by kernel_rfl) (by simp) ?_
              refine AllReadyH.cons rfl (fun K hK => ?_) ?_
              ·
                first | (refine step_append_rd rfl _ _ 53 rfl wx.heap.size 9 i0 (.string ByteArray.empty) 1 16 Try.underlying53 hi0 hz0 hz1 hz2 rfl (by decide) (.slice (some ⟨wx.heap.size, 0, none⟩) 0 0) 0 [] rfl ((Blk.new wx.drew 9 []).own (size := 1) (n := 0) (Nat.le_refl _) rfl (Nat.zero_le _)) _ _ _ _ _ rfl ((ROWN.out.below hHeld).takes hk) (strs_one _) (by simp only [maxLen]; omega) (by omega) hHeld.size ?_; intro A8 c8 w8 h8 own8 grow8 at8; simp only [Nat.zero_add, List.nil_append] at h8 own8 at8 ⊢; have V8 := own8) | (refine step_append_rd rfl _ _ 53 rfl wx.heap.size 9 i0 (.string ByteArray.empty) 1 16 Try.underlying53 hi0 hz0 hz1 hz2 rfl (by decide) (.slice (some ⟨wx.heap.size, 0, none⟩) 0 0) 0 [] rfl ((two_newT wx.drew 9 9 [] [.string c]).1.own (size := 1) (n := 0) (Nat.le_refl _) rfl (Nat.zero_le _)) _ _ _ _ _ rfl ((ROWN.out.below hHeld).takes hk) (strs_one _) (by simp only [maxLen]; omega) (by omega) hHeld.size ?_; intro A8 c8 w8 h8 own8 grow8 at8; simp only [Nat.zero_add, List.nil_append] at h8 own8 at8 ⊢; have V8 : Blk w8 (wx.heap.size + 1) 9 [.string c] := ((two_newT wx.drew 9 9 [] [.string c]).2).grown grow8 (by simp [Value.ownBlock])) | (refine step_append_rd rfl _ _ 53 rfl wx.heap.size 9 i0 (.string ByteArray.empty) 1 16 Try.underlying53 hi0 hz0 hz1 hz2 rfl (by decide) (.slice (some ⟨wx.heap.size + 1, 0, none⟩) 0 0) 0 [] rfl ((two_newT wx.drew 9 9 [.string c] []).2.own (size := 1) (n := 0) (Nat.le_succ _) rfl (Nat.zero_le _)) _ _ _ _ _ rfl ((ROWN.out.below hHeld).takes hk) (strs_one _) (by simp only [maxLen]; omega) (by omega) hHeld.size ?_; intro A8 c8 w8 h8 own8 grow8 at8; simp only [Nat.zero_add, List.nil_append] at h8 own8 at8 ⊢; have V8 : Blk w8 (wx.heap.size) 9 [.string c] := ((two_newT wx.drew 9 9 [.string c] []).1).grown grow8 (by simp [Value.ownBlock]))
                refine hK.out _ _ ?_ (fun hHeld => ?_)
                · (try dsimp only)
                  exact hHeld.grown grow8 hHeld.size (fun k hk => by simp [Value.ownBlock] at hk; omega)
                clear hK K
                try simp only [Act.put, List.setIfInBounds_toArray, List.set_cons_zero, List.set_cons_succ]
                refine wpAnyH_ready (rs := [10]) (by kernel_rfl) (by simp) ?_
                refine AllReadyH.cons rfl (fun K hK => ?_) AllReadyH.nil
                go_simp
                refine hK.out _ _ ?_ (fun hHeld => ?_)
                · (try dsimp only)
                  first | exact (Below.refl _ _).drew | exact hHeld.alloc hHeld.size _
                clear hK K
                try simp only [Act.put, List.setIfInBounds_toArray, List.set_cons_zero, List.set_cons_succ]
                refine wpAnyH_ready (rs := [11]) (by kernel_rfl) (by simp) ?_
                refine AllReadyH.cons rfl (fun K hK => ?_) AllReadyH.nil
                first | (refine step_append_rd rfl _ _ 53 rfl wx.heap.size 9 i0 (.string ByteArray.empty) 1 16 Try.underlying53 hi0 hz0 hz1 hz2 rfl (by decide) (.slice A8 k c8) k (strs (X.take k)) rfl (own8) _ _ _ _ _ rfl (V8.rd (size := 1) (n := 1) rfl) (fun u hu => by simp at hu; subst hu; rfl) (by simp only [maxLen]; omega) (by omega) hHeld.size ?_; intro A7 c7 w7 h7 own7 grow7 at7) | (refine step_append_rd rfl _ _ 53 rfl wx.heap.size 9 i0 (.string ByteArray.empty) 1 16 Try.underlying53 hi0 hz0 hz1 hz2 rfl (by decide) (.slice A8 k c8) k (strs (X.take k)) rfl (own8.alloc _) _ _ _ _ _ rfl ((Blk.new w8 9 [.string c]).rd (size := 1) (n := 1) rfl) (fun u hu => by simp at hu; subst hu; rfl) (by simp only [maxLen]; omega) (by omega) hHeld.size ?_; intro A7 c7 w7 h7 own7 grow7 at7)
                refine hK.out _ _ ?_ (fun hHeld => ?_)
                · (try dsimp only)
                  exact hHeld.grown grow7 hHeld.size (fun k hk => (own8.lt k hk).1)
                clear hK K
                try simp only [Act.put, List.setIfInBounds_toArray, List.set_cons_zero, List.set_cons_succ]
                refine wpAnyH_ready (rs := [15]) (by kernel_rfl) (by simp) ?_
                refine AllReadyH.cons rfl (fun K hK => ?_) AllReadyH.nil
                refine step_append_rd rfl _ _ 53 rfl wx.heap.size 9 i0 (.string ByteArray.empty) 1 16 Try.underlying53 hi0 hz0 hz1 hz2 rfl (by decide) (.slice A7 (k + 1) c7) (k + 1) (strs (X.take k) ++ [.string c]) rfl (own7) _ _ _ _ _ rfl ((Rd.none_ : Rd _ wx.heap.size 1 _ 0 [])) (fun u hu => by cases hu) (by simp only [maxLen]; omega) (by omega) hHeld.size ?_; intro A9 c9 w9 h9 own9 grow9 at9; simp only [EK.out, Nat.add_zero, List.append_nil] at h9 own9 ⊢
                refine hK.out _ _ ?_ (fun hHeld => ?_)
                · (try dsimp only)
                  exact hHeld.grown grow9 hHeld.size (fun k hk => (own7.lt k hk).1)
                clear hK K
                try simp only [Act.put, List.setIfInBounds_toArray, List.set_cons_zero, List.set_cons_succ]
                refine rgTake (i := 16) (d := 3) (v := ?_) rfl rfl (by kernel_rfl) (by kernel_rfl) (by kernel_rfl) (fun _ _ _ h => h) (by rfl) ?_ (by assumption) ?_
                rotate_left
                · ((intro w hSw); (try dsimp only at hSw); go_simp; (try with_reducible rfl))
                try simp only [Act.put, List.setIfInBounds_toArray, List.set_cons_zero, List.set_cons_succ]
                refine wpAnyH_done (by kernel_rfl) ?_ _
                have OW2 := own_le own9 G.size
                have G9 := G.trans (hHeld.mono G.size)
                rw [HRI.out] at OW2
                clear own9 own7 own8 V8 hHeld
                go_wp2_with fail
                go_roundw
                case rel => exact ⟨j + 1, k + 1, X.take k ++ c :: X.drop k, A9, c9, by omega, by go_num, HINS.out, by omega, rfl, OW2, G9⟩
                case measure => simp [intOf]; omega
              refine AllReadyH.cons rfl (fun K hK => ?_) ?_
              ·
                go_simp
                refine hK.out _ _ ?_ (fun hHeld => ?_)
                · (try dsimp only)
                  first | exact (Below.refl _ _).drew | exact hHeld.alloc hHeld.size _
                clear hK K
                try simp only [Act.put, List.setIfInBounds_toArray, List.set_cons_zero, List.set_cons_succ]
                refine wpAnyH_ready (rs := [4]) (by kernel_rfl) (by simp) ?_
                refine AllReadyH.cons rfl (fun K hK => ?_) AllReadyH.nil
                first | (refine step_append_rd rfl _ _ 53 rfl wx.heap.size 9 i0 (.string ByteArray.empty) 1 16 Try.underlying53 hi0 hz0 hz1 hz2 rfl (by decide) (.slice (some ⟨wx.heap.size, 0, none⟩) 0 0) 0 [] rfl ((Blk.new wx.drew 9 []).own (size := 1) (n := 0) (Nat.le_refl _) rfl (Nat.zero_le _)) _ _ _ _ _ rfl ((ROWN.out.below hHeld).takes hk) (strs_one _) (by simp only [maxLen]; omega) (by omega) hHeld.size ?_; intro A8 c8 w8 h8 own8 grow8 at8; simp only [Nat.zero_add, List.nil_append] at h8 own8 at8 ⊢; have V8 := own8) | (refine step_append_rd rfl _ _ 53 rfl wx.heap.size 9 i0 (.string ByteArray.empty) 1 16 Try.underlying53 hi0 hz0 hz1 hz2 rfl (by decide) (.slice (some ⟨wx.heap.size, 0, none⟩) 0 0) 0 [] rfl ((two_newT wx.drew 9 9 [] [.string c]).1.own (size := 1) (n := 0) (Nat.le_refl _) rfl (Nat.zero_le _)) _ _ _ _ _ rfl ((ROWN.out.below hHeld).takes hk) (strs_one _) (by simp only [maxLen]; omega) (by omega) hHeld.size ?_; intro A8 c8 w8 h8 own8 grow8 at8; simp only [Nat.zero_add, List.nil_append] at h8 own8 at8 ⊢; have V8 : Blk w8 (wx.heap.size + 1) 9 [.string c] := ((two_newT wx.drew 9 9 [] [.string c]).2).grown grow8 (by simp [Value.ownBlock])) | (refine step_append_rd rfl _ _ 53 rfl wx.heap.size 9 i0 (.string ByteArray.empty) 1 16 Try.underlying53 hi0 hz0 hz1 hz2 rfl (by decide) (.slice (some ⟨wx.heap.size + 1, 0, none⟩) 0 0) 0 [] rfl ((two_newT wx.drew 9 9 [.string c] []).2.own (size := 1) (n := 0) (Nat.le_succ _) rfl (Nat.zero_le _)) _ _ _ _ _ rfl ((ROWN.out.below hHeld).takes hk) (strs_one _) (by simp only [maxLen]; omega) (by omega) hHeld.size ?_; intro A8 c8 w8 h8 own8 grow8 at8; simp only [Nat.zero_add, List.nil_append] at h8 own8 at8 ⊢; have V8 : Blk w8 (wx.heap.size) 9 [.string c] := ((two_newT wx.drew 9 9 [.string c] []).1).grown grow8 (by simp [Value.ownBlock]))
                refine hK.out _ _ ?_ (fun hHeld => ?_)
                · (try dsimp only)
                  exact hHeld.grown grow8 hHeld.size (fun k hk => by simp [Value.ownBlock] at hk; omega)
                clear hK K
                try simp only [Act.put, List.setIfInBounds_toArray, List.set_cons_zero, List.set_cons_succ]
                refine wpAnyH_ready (rs := [11]) (by kernel_rfl) (by simp) ?_
                refine AllReadyH.cons rfl (fun K hK => ?_) AllReadyH.nil
                first | (refine step_append_rd rfl _ _ 53 rfl wx.heap.size 9 i0 (.string ByteArray.empty) 1 16 Try.underlying53 hi0 hz0 hz1 hz2 rfl (by decide) (.slice A8 k c8) k (strs (X.take k)) rfl (own8) _ _ _ _ _ rfl (V8.rd (size := 1) (n := 1) rfl) (fun u hu => by simp at hu; subst hu; rfl) (by simp only [maxLen]; omega) (by omega) hHeld.size ?_; intro A7 c7 w7 h7 own7 grow7 at7) | (refine step_append_rd rfl _ _ 53 rfl wx.heap.size 9 i0 (.string ByteArray.empty) 1 16 Try.underlying53 hi0 hz0 hz1 hz2 rfl (by decide) (.slice A8 k c8) k (strs (X.take k)) rfl (own8.alloc _) _ _ _ _ _ rfl ((Blk.new w8 9 [.string c]).rd (size := 1) (n := 1) rfl) (fun u hu => by simp at hu; subst hu; rfl) (by simp only [maxLen]; omega) (by omega) hHeld.size ?_; intro A7 c7 w7 h7 own7 grow7 at7)
                refine hK.out _ _ ?_ (fun hHeld => ?_)
                · (try dsimp only)
                  exact hHeld.grown grow7 hHeld.size (fun k hk => (own8.lt k hk).1)
                clear hK K
                try simp only [Act.put, List.setIfInBounds_toArray, List.set_cons_zero, List.set_cons_succ]
                refine wpAnyH_ready (rs := [15]) (by kernel_rfl) (by simp) ?_
                refine AllReadyH.cons rfl (fun K hK => ?_) AllReadyH.nil
                refine step_append_rd rfl _ _ 53 rfl wx.heap.size 9 i0 (.string ByteArray.empty) 1 16 Try.underlying53 hi0 hz0 hz1 hz2 rfl (by decide) (.slice A7 (k + 1) c7) (k + 1) (strs (X.take k) ++ [.string c]) rfl (own7) _ _ _ _ _ rfl ((Rd.none_ : Rd _ wx.heap.size 1 _ 0 [])) (fun u hu => by cases hu) (by simp only [maxLen]; omega) (by omega) hHeld.size ?_; intro A9 c9 w9 h9 own9 grow9 at9; simp only [EK.out, Nat.add_zero, List.append_nil] at h9 own9 ⊢
                refine hK.out _ _ ?_ (fun hHeld => ?_)
                · (try dsimp only)
                  exact hHeld.grown grow9 hHeld.size (fun k hk => (own7.lt k hk).1)
                clear hK K
                try simp only [Act.put, List.setIfInBounds_toArray, List.set_cons_zero, List.set_cons_succ]
                refine rgTake (i := 16) (d := 3) (v := ?_) rfl rfl (by kernel_rfl) (by kernel_rfl) (by kernel_rfl) (fun _ _ _ h => h) (by rfl) ?_ (by assumption) ?_
                rotate_left
                · ((intro w hSw); (try dsimp only at hSw); go_simp; (try with_reducible rfl))
                try simp only [Act.put, List.setIfInBounds_toArray, List.set_cons_zero, List.set_cons_succ]
                refine wpAnyH_done (by kernel_rfl) ?_ _
                have OW2 := own_le own9 G.size
                have G9 := G.trans (hHeld.mono G.size)
                rw [HRI.out] at OW2
                clear own9 own7 own8 V8 hHeld
                go_wp2_with fail
                go_roundw
                case rel => exact ⟨j + 1, k + 1, X.take k ++ c :: X.drop k, A9, c9, by omega, by go_num, HINS.out, by omega, rfl, OW2, G9⟩
                case measure => simp [intOf]; omega
              exact AllReadyH.nil
            refine AllReadyH.cons rfl (fun K hK => ?_) ?_
            ·
              go_simp
              refine hK.out _ _ ?_ (fun hHeld => ?_)
              · (try dsimp only)
                first | exact (Below.refl _ _).drew | exact hHeld.alloc hHeld.size _
              clear hK K
              try simp only [Act.put, List.setIfInBounds_toArray, List.set_cons_zero, List.set_cons_succ]
              refine wpAnyH_ready (rs := [0]) (by kernel_rfl) (by simp) ?_
              refine AllReadyH.cons rfl (fun K hK => ?_) AllReadyH.nil
              go_simp
              refine hK.out _ _ ?_ (fun hHeld => ?_)
              · (try dsimp only)
                first | exact (Below.refl _ _).drew | exact hHeld.alloc hHeld.size _
              clear hK K
              try simp only [Act.put, List.setIfInBounds_toArray, List.set_cons_zero, List.set_cons_succ]
              refine wpAnyH_ready (rs := [4]) (by kernel_rfl) (by simp) ?_
              refine AllReadyH.cons rfl (fun K hK => ?_) AllReadyH.nil
              first | (refine step_append_rd rfl _ _ 53 rfl wx.heap.size 9 i0 (.string ByteArray.empty) 1 16 Try.underlying53 hi0 hz0 hz1 hz2 rfl (by decide) (.slice (some ⟨wx.heap.size, 0, none⟩) 0 0) 0 [] rfl ((Blk.new wx.drew 9 []).own (size := 1) (n := 0) (Nat.le_refl _) rfl (Nat.zero_le _)) _ _ _ _ _ rfl ((ROWN.out.below hHeld).takes hk) (strs_one _) (by simp only [maxLen]; omega) (by omega) hHeld.size ?_; intro A8 c8 w8 h8 own8 grow8 at8; simp only [Nat.zero_add, List.nil_append] at h8 own8 at8 ⊢; have V8 := own8) | (refine step_append_rd rfl _ _ 53 rfl wx.heap.size 9 i0 (.string ByteArray.empty) 1 16 Try.underlying53 hi0 hz0 hz1 hz2 rfl (by decide) (.slice (some ⟨wx.heap.size, 0, none⟩) 0 0) 0 [] rfl ((two_newT wx.drew 9 9 [] [.string c]).1.own (size := 1) (n := 0) (Nat.le_refl _) rfl (Nat.zero_le _)) _ _ _ _ _ rfl ((ROWN.out.below hHeld).takes hk) (strs_one _) (by simp only [maxLen]; omega) (by omega) hHeld.size ?_; intro A8 c8 w8 h8 own8 grow8 at8; simp only [Nat.zero_add, List.nil_append] at h8 own8 at8 ⊢; have V8 : Blk w8 (wx.heap.size + 1) 9 [.string c] := ((two_newT wx.drew 9 9 [] [.string c]).2).grown grow8 (by simp [Value.ownBlock])) | (refine step_append_rd rfl _ _ 53 rfl wx.heap.size 9 i0 (.string ByteArray.empty) 1 16 Try.underlying53 hi0 hz0 hz1 hz2 rfl (by decide) (.slice (some ⟨wx.heap.size + 1, 0, none⟩) 0 0) 0 [] rfl ((two_newT wx.drew 9 9 [.string c] []).2.own (size := 1) (n := 0) (Nat.le_succ _) rfl (Nat.zero_le _)) _ _ _ _ _ rfl ((ROWN.out.below hHeld).takes hk) (strs_one _) (by simp only [maxLen]; omega) (by omega) hHeld.size ?_; intro A8 c8 w8 h8 own8 grow8 at8; simp only [Nat.zero_add, List.nil_append] at h8 own8 at8 ⊢; have V8 : Blk w8 (wx.heap.size) 9 [.string c] := ((two_newT wx.drew 9 9 [.string c] []).1).grown grow8 (by simp [Value.ownBlock]))
              refine hK.out _ _ ?_ (fun hHeld => ?_)
              · (try dsimp only)
                exact hHeld.grown grow8 hHeld.size (fun k hk => by simp [Value.ownBlock] at hk; omega)
              clear hK K
              try simp only [Act.put, List.setIfInBounds_toArray, List.set_cons_zero, List.set_cons_succ]
              refine wpAnyH_ready (rs := [11]) (by kernel_rfl) (by simp) ?_
              refine AllReadyH.cons rfl (fun K hK => ?_) AllReadyH.nil
              first | (refine step_append_rd rfl _ _ 53 rfl wx.heap.size 9 i0 (.string ByteArray.empty) 1 16 Try.underlying53 hi0 hz0 hz1 hz2 rfl (by decide) (.slice A8 k c8) k (strs (X.take k)) rfl (own8) _ _ _ _ _ rfl (V8.rd (size := 1) (n := 1) rfl) (fun u hu => by simp at hu; subst hu; rfl) (by simp only [maxLen]; omega) (by omega) hHeld.size ?_; intro A7 c7 w7 h7 own7 grow7 at7) | (refine step_append_rd rfl _ _ 53 rfl wx.heap.size 9 i0 (.string ByteArray.empty) 1 16 Try.underlying53 hi0 hz0 hz1 hz2 rfl (by decide) (.slice A8 k c8) k (strs (X.take k)) rfl (own8.alloc _) _ _ _ _ _ rfl ((Blk.new w8 9 [.string c]).rd (size := 1) (n := 1) rfl) (fun u hu => by simp at hu; subst hu; rfl) (by simp only [maxLen]; omega) (by omega) hHeld.size ?_; intro A7 c7 w7 h7 own7 grow7 at7)
              refine hK.out _ _ ?_ (fun hHeld => ?_)
              · (try dsimp only)
                exact hHeld.grown grow7 hHeld.size (fun k hk => (own8.lt k hk).1)
              clear hK K
              try simp only [Act.put, List.setIfInBounds_toArray, List.set_cons_zero, List.set_cons_succ]
              refine wpAnyH_ready (rs := [15]) (by kernel_rfl) (by simp) ?_
              refine AllReadyH.cons rfl (fun K hK => ?_) AllReadyH.nil
              refine step_append_rd rfl _ _ 53 rfl wx.heap.size 9 i0 (.string ByteArray.empty) 1 16 Try.underlying53 hi0 hz0 hz1 hz2 rfl (by decide) (.slice A7 (k + 1) c7) (k + 1) (strs (X.take k) ++ [.string c]) rfl (own7) _ _ _ _ _ rfl ((Rd.none_ : Rd _ wx.heap.size 1 _ 0 [])) (fun u hu => by cases hu) (by simp only [maxLen]; omega) (by omega) hHeld.size ?_; intro A9 c9 w9 h9 own9 grow9 at9; simp only [EK.out, Nat.add_zero, List.append_nil] at h9 own9 ⊢
              refine hK.out _ _ ?_ (fun hHeld => ?_)
              · (try dsimp only)
                exact hHeld.grown grow9 hHeld.size (fun k hk => (own7.lt k hk).1)
              clear hK K
              try simp only [Act.put, List.setIfInBounds_toArray, List.set_cons_zero, List.set_cons_succ]
              refine rgTake (i := 16) (d := 3) (v := ?_) rfl rfl (by kernel_rfl) (by kernel_rfl) (by kernel_rfl) (fun _ _ _ h => h) (by rfl) ?_ (by assumption) ?_
              rotate_left
              · ((intro w hSw); (try dsimp only at hSw); go_simp; (try with_reducible rfl))
              try simp only [Act.put, List.setIfInBounds_toArray, List.set_cons_zero, List.set_cons_succ]
              refine wpAnyH_done (by kernel_rfl) ?_ _
              have OW2 := own_le own9 G.size
              have G9 := G.trans (hHeld.mono G.size)
              rw [HRI.out] at OW2
              clear own9 own7 own8 V8 hHeld
              go_wp2_with fail
              go_roundw
              case rel => exact ⟨j + 1, k + 1, X.take k ++ c :: X.drop k, A9, c9, by omega, by go_num, HINS.out, by omega, rfl, OW2, G9⟩
              case measure => simp [intOf]; omega
            exact AllReadyH.nil
    · obtain rfl : j = q := by omega
      have e2 : l.take j = l := List.take_of_length_le (by rw [HQ.out]; exact Nat.le_refl _)
      have hXE := HXE.out
      rw [e2] at hXE
      have hml : m = (cluB l).length := by have := hown.1; rw [strs_len, hXE] at this; omega
      subst hXE
      have HM := Lib.hid hml
      clear e2 HXE hml
      go_wp2_with fail
      go_ret
      rw [← HM.out]
      exact ⟨A, cp, rfl, hown, G⟩
def coR (l : List Rn) : List ByteArray := if okRns l = true then cluB l else []
theorem coR_b (l : List Rn) : (coR l).length ≤ 1000 := by
  unfold coR
  split
  · next h =>
    have h1 := (okRns_iff h).1
    have h2 := cluB_len l
    omega
  · simp
set_option maxRecDepth 100000 in
set_option maxHeartbeats 2000000 in
theorem ClubsOf_impl {bl off q cq : Nat} {l : List Rn} {w : World} (hR : Rd w w.heap.size 6 (some ⟨bl, off, none⟩) q (rns l)) (hq : q ≤ 1048576) (hqc : q ≤ cq) (hs : ∀ r ∈ l, r.name.size ≤ maxLen ∧ r.club.size ≤ maxLen) :
    Calls Try.prog 38 #[.slice (some ⟨bl, off, none⟩) q cq] w fun e w' => ∃ A cp, e = .returned (.tuple #[.slice A (coR l).length cp, .bool (okRns l)]) ∧ w'.ownsRow w.heap.size 9 1 (.slice A (coR l).length cp) (coR l).length (strs (coR l)) ∧ Below w.heap.size w w' := by
  have HSZ := Lib.hid hs
  clear hs
  have G := Below.refl w.heap.size w
  cases hok : okRns l
  · have e2 : coR l = [] := by unfold coR; rw [hok]; rfl
    rw [e2]; clear e2
    have HOK := Lib.hid hok
    clear hok
    go_enter Try.func38, Try.ntmps38
    go_wp2_with fail
    refine (AreRunners_impl (hR.on G) hq hqc HSZ.out).mono ?_
    rintro e w1 ⟨rfl, hb⟩
    replace G := G.trans (hb.mono G.size)
    clear hb
    rw [HOK.out]
    go_wp2_with fail
    go_ret2
    exact ⟨none, 0, rfl, World.ownsRow_nil _ _ _ _, G⟩
  · have e2 : coR l = cluB l := by unfold coR; rw [hok]; rfl
    rw [e2]; clear e2
    have HOK := Lib.hid hok
    have h10 : q ≤ 10 := by have := (okRns_iff hok).1; have := hR.rlen; omega
    clear hok
    go_enter Try.func38, Try.ntmps38
    go_wp2_with fail
    refine (AreRunners_impl (hR.on G) hq hqc HSZ.out).mono ?_
    rintro e w1 ⟨rfl, hb⟩
    replace G := G.trans (hb.mono G.size)
    clear hb
    rw [HOK.out]
    go_wp2_with fail
    refine (clubsOf_any (hR.on G) h10).mono ?_
    rintro e w9 ⟨A, cp, rfl, O9, hb⟩
    have O8 := own_le O9 G.size
    replace G := G.trans (hb.mono G.size)
    clear hb O9
    go_wp2_with fail
    go_ret2
    exact ⟨A, cp, rfl, O8, G⟩
set_option maxRecDepth 100000 in
set_option maxHeartbeats 2000000 in
theorem ClubsOf_spec {bl off q cq : Nat} {l : List Rn} {w : World} (hR : Rd w w.heap.size 6 (some ⟨bl, off, none⟩) q (rns l)) (hq : q ≤ 1048576) (hqc : q ≤ cq) (hs : ∀ r ∈ l, r.name.size ≤ maxLen ∧ r.club.size ≤ maxLen) :
    Calls Try.prog 37 #[.slice (some ⟨bl, off, none⟩) q cq] w fun e w' => ∃ A cp, e = .returned (.tuple #[.slice A (coR l).length cp, .bool (okRns l)]) ∧ w'.ownsRow w.heap.size 9 1 (.slice A (coR l).length cp) (coR l).length (strs (coR l)) ∧ Below w.heap.size w w' := by
  have HSZ := Lib.hid hs
  clear hs
  have G := Below.refl w.heap.size w
  cases hok : okRns l
  · have e2 : coR l = [] := by unfold coR; rw [hok]; rfl
    rw [e2]; clear e2
    have HOK := Lib.hid hok
    clear hok
    go_enter Try.func37, Try.ntmps37
    go_wp2_with fail
    refine (l5Good_any (hR.on G) hq hqc HSZ.out).mono ?_
    rintro e w1 ⟨rfl, hb⟩
    replace G := G.trans (hb.mono G.size)
    clear hb
    rw [HOK.out]
    go_wp2_with fail
    go_ret2
    exact ⟨_, 0, rfl, World.ownsRow_lit _ #[] 0 G.size (by simp) rfl, G.alloc G.size _⟩
  · have e2 : coR l = cluB l := by unfold coR; rw [hok]; rfl
    rw [e2]; clear e2
    have HOK := Lib.hid hok
    have h10 : q ≤ 10 := by have := (okRns_iff hok).1; have := hR.rlen; omega
    clear hok
    go_enter Try.func37, Try.ntmps37
    go_wp2_with fail
    refine (l5Good_any (hR.on G) hq hqc HSZ.out).mono ?_
    rintro e w1 ⟨rfl, hb⟩
    replace G := G.trans (hb.mono G.size)
    clear hb
    rw [HOK.out]
    go_wp2_with fail
    refine (l5Clubs_any (hR.on G) h10).mono ?_
    rintro e w9 ⟨A, cp, rfl, O9, hb⟩
    have O8 := own_le O9 G.size
    replace G := G.trans (hb.mono G.size)
    clear hb O9
    go_wp2_with fail
    go_ret2
    exact ⟨A, cp, rfl, O8, G⟩
end Go.Proofs.Ytmcldakdefeepaa
