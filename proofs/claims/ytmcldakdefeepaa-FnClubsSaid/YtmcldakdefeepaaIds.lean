/- Contracts: the ids of the runners that are chosen; RunnersAged, the program's and the reference's; the marks on a list of runners. -/
import Derived.Test.YtmcldakdefeepaaRnl
namespace Go.Proofs.Ytmcldakdefeepaa
set_option linter.unusedVariables false
set_option linter.unusedSimpArgs false
open Go.RowKit
def idsL (l : List Rn) (p : Rn → Bool) (k : Nat) : List Int := ((l.take k).filter p).map Rn.id
theorem idsL_succ {l : List Rn} {p : Rn → Bool} {k : Nat} (hk : k < l.length) : idsL l p (k + 1) = idsL l p k ++ (if p l[k] = true then [l[k].id] else []) := by
  unfold idsL
  rw [List.take_succ_eq_append_getElem hk, List.filter_append, List.map_append]
  congr 1
  cases h : p l[k] <;> simp [h]
theorem idsL_len (l : List Rn) (p : Rn → Bool) (k : Nat) : (idsL l p k).length ≤ k := by
  unfold idsL
  rw [List.length_map]
  have h1 := List.length_filter_le p (l.take k)
  have h2 := List.length_take_le k l
  omega
set_option maxRecDepth 100000 in
set_option maxHeartbeats 2000000 in
theorem idsOf_any {g : Nat} {lb : Array Value} {p : Rn → Bool} {R : Option Addr} {q cq : Nat} {l : List Rn} {w : World} (eg : ∀ args w, (callFunc g args).run Try.prog w = .ok (.enter g args) w) (hp : FnPredR Try.prog g lb p l w) (hR : Rd w w.heap.size 6 R q (rns l)) (hq : q ≤ 10) :
    Calls Try.prog 54 #[.slice R q cq, .func (.func g) #[] lb] w fun e w' => ∃ A cp, e = .returned (.slice A (idsL l p l.length).length cp) ∧ w'.ownsRow w.heap.size 3 1 (.slice A (idsL l p l.length).length cp) (idsL l p l.length).length (ints (idsL l p l.length)) ∧ Below w.heap.size w w' := by
  have HX := Lib.hid hR.rlen
  have HP := Lib.hid hp
  obtain ⟨i0, hi0, hz0, hz1, hz2⟩ := info_parts int_info
  clear hp
  go_enter Try.func54, Try.ntmps54
  go_wp2_with fail
  go_loopw [5, 11] (fun o i wr => ∃ j : Nat, j ≤ q ∧ i = .int .i64 j ∧ wr.ownsRow w.heap.size 3 1 o (idsL l p j).length (ints (idsL l p j)) ∧ Below w.heap.size w wr) (fun _ i _ => q - (intOf i).toNat)
  case atStart =>
    refine ⟨0, Nat.zero_le _, rfl, ?_, (by repeat (first | exact Below.refl _ _ | refine below_drewN ?_ _ | refine Below.drew ?_ | refine Below.alloc ?_ (by first | omega | (simp; done) | (simp; omega)) _ | refine Below.setCell ?_ (by first | omega | (simp; done) | (simp; omega)) _))⟩
    have := World.ownsRow_lit (base := w.heap.size) (size := 1) (e := 3) w #[] 0 (Nat.le_refl _) (by simp) rfl
    simpa [ints, idsL] using this
  case round =>
    obtain ⟨j, hj, rfl, hown, G⟩ := hrel
    by_cases hlt : j < q
    · obtain ⟨b, off, rfl, hbb, hca⟩ := hR.rn (show 0 < q by omega)
      have kx : j < l.length := by rw [HX.out]; exact hlt
      obtain ⟨c0, c1, c2, c3, c4, c5⟩ := (hca j kx).below G hbb
      have HC := Lib.hid (fun (W : World) (hW : Below w.heap.size w W) => HP.out l[j] (List.getElem_mem kx) W hW)
      have HS := Lib.hid (idsL_succ (p := p) kx)
      have hlj := idsL_len l p j
      generalize hr : l[j] = r at *
      clear hca hr
      cases hch : p r
      · have HF : Hid (idsL l p (j + 1) = idsL l p j) := by show _ = _; rw [HS.out, hch]; simp
        have HCH := Lib.hid hch
        clear hch
        go_wp2_with fail
        refine (HC.out _ (G.alloc G.size _)).mono ?_
        rintro e' w2 ⟨rfl, hb1⟩
        rw [HCH.out]
        have o2 := own_below (own_below hown (Below.alloc (Below.refl _ _) (Nat.le_refl _) (.cells #[.int .i64 r.id, .string r.name, .string r.club, .int .i64 r.born, .bool r.woman, .int .i64 r.card] 30))) hb1
        have G2 := (G.alloc G.size (.cells #[.int .i64 r.id, .string r.name, .string r.club, .int .i64 r.born, .bool r.woman, .int .i64 r.card] 30)).trans (hb1.mono (G.alloc G.size _).size)
        clear hown G c0 c1 c2 c3 c4 c5 hb1
        go_wp2_with fail
        go_roundw
        case rel => exact ⟨j + 1, by omega, by go_num, by rw [HF.out]; exact o2, G2⟩
        case measure => simp [intOf]; omega
      · have HF : Hid (idsL l p (j + 1) = idsL l p j ++ [r.id]) := by show _ = _; rw [HS.out, hch]; simp
        have HCH := Lib.hid hch
        clear hch
        go_wp2_with fail
        refine (HC.out _ (G.alloc G.size _)).mono ?_
        rintro e' w2 ⟨rfl, hb1⟩
        rw [HCH.out]
        have D2 := (Blk.new wr 30 [.int .i64 r.id, .string r.name, .string r.club, .int .i64 r.born, .bool r.woman, .int .i64 r.card]).on hb1
        have o2 := own_below (own_below hown (Below.alloc (Below.refl _ _) (Nat.le_refl _) (.cells #[.int .i64 r.id, .string r.name, .string r.club, .int .i64 r.born, .bool r.woman, .int .i64 r.card] 30))) hb1
        have G2 := (G.alloc G.size (.cells #[.int .i64 r.id, .string r.name, .string r.club, .int .i64 r.born, .bool r.woman, .int .i64 r.card] 30)).trans (hb1.mono (G.alloc G.size _).size)
        clear hown G c0 c1 c2 c3 c4 c5 hb1
        have c0 : w2.cell? ⟨wr.heap.size, 0, none⟩ = some (.int .i64 r.id) := D2.cell 0
        have ltD := D2.lt
        go_wp2_with (at_builtin; refine wpList_append_own _ rfl _ _ 35 rfl w.heap.size 3 i0 (.int .i64 0) 1 8 Try.underlying35 hi0 hz0 hz1 hz2 rfl (by decide) _ _ _ rfl (o2.alloc _) ⟨w2.heap.size, 0, none⟩ 1 1 [.int .i64 r.id] rfl rfl ?c1 ?c2 ?c3 ?c4 (by have := G2.size; simp; omega) ?_)
        case c1 => exact cell_one_new (w2) _ _
        case c2 => intro u hu; simp at hu; subst hu; rfl
        case c3 => simp only [maxLen]; omega
        case c4 => omega
        intro v9 w9 own1 grow1 _
        have bel1 : Below w.heap.size w w9 := (G2.alloc G2.size _).grown grow1 (by have := G2.size; simp; omega) (fun k hk => (o2.lt k hk).1)
        have e1 : ints (idsL l p j) ++ [Value.int .i64 r.id] = ints (idsL l p j ++ [r.id]) := by simp [ints]
        rw [e1] at own1
        clear e1 D2 o2 G2 grow1
        go_wp2_with fail
        go_roundw
        case rel => exact ⟨j + 1, by omega, by go_num, by rw [HF.out, List.length_append]; exact own1, bel1⟩
        case measure => simp [intOf]; omega
    · have hjq : j = q := by omega
      have HJ := Lib.hid hjq
      clear hjq
      obtain ⟨A', c', rfl⟩ := own_form hown
      go_wp2_with fail
      go_ret
      rw [HX.out, ← HJ.out]
      exact ⟨A', c', rfl, hown, G⟩
def raB (x lo hi : Int) : Bool := insideB (2026 - x) lo hi
def ageB (lo hi : Int) : Bool := decide (0 ≤ lo) && (decide (lo ≤ hi) && decide (hi ≤ 120))
def raOk (l : List Rn) (lo hi : Int) : Bool := okRns l && ageB lo hi
def raR (l : List Rn) (lo hi : Int) : List Int := if raOk l lo hi = true then idsL l (fun r => raB r.born lo hi) l.length else []
theorem raR_b (l : List Rn) (lo hi : Int) : (raR l lo hi).length ≤ 1000 := by
  unfold raR
  split
  · next h =>
    unfold raOk at h
    rw [Bool.and_eq_true] at h
    have h1 := (okRns_iff h.1).1
    have h2 := idsL_len l (fun r => raB r.born lo hi) l.length
    omega
  · simp
theorem rnsAt_born {l : List Rn} (h : ∀ i, i < l.length → rnsAt l i = true) : ∀ r ∈ l, 1920 ≤ r.born ∧ r.born ≤ 2020 := by
  intro r hr
  obtain ⟨i, hi, rfl⟩ := List.mem_iff_getElem.1 hr
  have := h i hi
  unfold rnsAt rnOk at this
  rw [rnA_get hi] at this
  simp only [Bool.and_eq_true] at this
  exact insideB_iff.1 this.1.1.2
theorem areAges_any (lo hi : Int) (w : World) : Calls Try.prog 53 #[.int .i64 lo, .int .i64 hi] w fun e w' => e = .returned (.bool (ageB lo hi)) ∧ w = w' := by
  unfold ageB
  by_cases h1 : 0 ≤ lo
  · by_cases h2 : lo ≤ hi
    · by_cases h3 : hi ≤ 120
      · go_enter Try.func53, Try.ntmps53
        go_wp2
        go_ret
        exact ⟨ret_bool (by simp [h1, h2, h3]), rfl⟩
      · have h4 : decide (hi ≤ 120) = false := by simpa using h3
        go_enter Try.func53, Try.ntmps53
        go_wp2
        go_ret
        exact ⟨ret_bool (by first | (simp [h1, h2]; done) | (simp [h1, h2]; omega)), rfl⟩
    · have h4 : decide (lo ≤ hi) = false := by simpa using h2
      go_enter Try.func53, Try.ntmps53
      go_wp2
      go_ret
      exact ⟨ret_bool (by first | (simp; done) | (simp; omega) | (simp [h4]; done)), rfl⟩
  · have h4 : decide (0 ≤ lo) = false := by simpa using h1
    go_enter Try.func53, Try.ntmps53
    go_wp2
    go_ret
    exact ⟨ret_bool (by first | (simp; done) | (simp; omega) | (simp [h4]; done)), rfl⟩
set_option maxHeartbeats 1000000 in
theorem Aged1 {l : List Rn} {lo hi : Int} {g1 g2 : Nat} {w : World} (hl : ∀ r ∈ l, 1920 ≤ r.born ∧ r.born ≤ 2020) (K1 : Blk w g1 3 [.int .i64 lo]) (K2 : Blk w g2 3 [.int .i64 hi]) :
    FnPredR Try.prog 55 #[.pointer (some ⟨g1, 0, none⟩), .pointer (some ⟨g2, 0, none⟩)] (fun r => raB r.born lo hi) l w := by
  intro r hr W hb
  obtain ⟨b1, b2⟩ := hl r hr
  have c1 : W.cell? ⟨g1, 0, none⟩ = some (.int .i64 lo) := (K1.on hb).cell 0
  have c2 : W.cell? ⟨g2, 0, none⟩ = some (.int .i64 hi) := (K2.on hb).cell 0
  have l1 := (K1.on hb).lt
  have l2 := (K2.on hb).lt
  have p1 : IntKind.i64.wrap (2026 - r.born) = 2026 - r.born := IntWalk.i64_in _ (by omega)
  go_enter Try.func55, Try.ntmps55
  go_wp2_with fail
  refine (inside_any _ _ _ _).mono ?_
  rintro e w1 ⟨rfl, rfl⟩
  go_wp2_with fail
  go_ret
  exact ⟨rfl, (by repeat (first | exact Below.refl _ _ | refine below_drewN ?_ _ | refine Below.drew ?_ | refine Below.alloc ?_ (by first | omega | (simp; done) | (simp; omega)) _ | refine Below.setCell ?_ (by first | omega | (simp; done) | (simp; omega)) _))⟩
end Go.Proofs.Ytmcldakdefeepaa
