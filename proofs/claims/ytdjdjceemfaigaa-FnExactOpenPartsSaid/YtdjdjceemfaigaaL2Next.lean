/- Contract: the cells next to a cell, by the reference. -/
import Derived.Test.YtdjdjceemfaigaaNext
namespace Go.Proofs.Ytdjdjceemfaigaa
set_option linter.unusedVariables false
set_option linter.unusedSimpArgs false
open Go.RowKit
def n1 (m : Mp) (c : Int) : List Int := if 0 < c / m.wd then [c - m.wd] else []
def n2 (m : Mp) (c : Int) : List Int := if 0 < c % m.wd then [c - 1] else []
def n3 (m : Mp) (c : Int) : List Int := if c % m.wd + 1 < m.wd then [c + 1] else []
def n4 (m : Mp) (c : Int) : List Int := if c / m.wd + 1 < m.ht then [c + m.wd] else []
def nbrI (m : Mp) (c : Int) : List Int := n1 m c ++ n2 m c ++ n3 m c ++ n4 m c
theorem nbrI_len (m : Mp) (c : Int) : (nbrI m c).length ≤ 4 := by
  unfold nbrI n1 n2 n3 n4
  split <;> split <;> split <;> split <;> simp
theorem nbrI_nbr {m : Mp} (V : Valid m) (c : Nat) : nbrI m c = cast (nbr m.wd.toNat m.ht.toNat c) := by
  obtain ⟨W, hW⟩ := Int.eq_ofNat_of_zero_le (show 0 ≤ m.wd by have := V.w1; omega)
  obtain ⟨H, hH⟩ := Int.eq_ofNat_of_zero_le (show 0 ≤ m.ht by have := V.h1; omega)
  unfold nbrI nbr n1 n2 n3 n4
  rw [hW, hH, Int.toNat_natCast, Int.toNat_natCast]
  have h1 : (c : Int) % (W : Int) = ((c % W : Nat) : Int) := by simp
  have h2 : (c : Int) / (W : Int) = ((c / W : Nat) : Int) := by simp
  rw [h1, h2]
  have hle : c / W ≠ 0 → W ≤ c := by
    intro h
    rcases Nat.lt_or_ge c W with h' | h'
    · exact absurd (Nat.div_eq_of_lt h') h
    · exact h'
  have hle2 : c % W ≠ 0 → 1 ≤ c := by
    intro h
    rcases Nat.eq_zero_or_pos c with h' | h'
    · subst h'; simp at h
    · exact h'
  have a1 : (if 0 < ((c / W : Nat) : Int) then [(c : Int) - (W : Int)] else []) = cast (if 0 < c / W then [c - W] else []) := by
    by_cases h : 0 < c / W
    · rw [if_pos (by omega), if_pos h]; have := hle (by omega); simp [cast]; omega
    · rw [if_neg (by omega), if_neg h]; rfl
  have a2 : (if 0 < ((c % W : Nat) : Int) then [(c : Int) - 1] else []) = cast (if 0 < c % W then [c - 1] else []) := by
    by_cases h : 0 < c % W
    · rw [if_pos (by omega), if_pos h]; have := hle2 (by omega); simp [cast]; omega
    · rw [if_neg (by omega), if_neg h]; rfl
  have a3 : (if ((c % W : Nat) : Int) + 1 < (W : Int) then [(c : Int) + 1] else []) = cast (if c % W + 1 < W then [c + 1] else []) := by
    by_cases h : c % W + 1 < W
    · rw [if_pos (by omega), if_pos h]; simp [cast]
    · rw [if_neg (by omega), if_neg h]; rfl
  have a4 : (if ((c / W : Nat) : Int) + 1 < (H : Int) then [(c : Int) + (W : Int)] else []) = cast (if c / W + 1 < H then [c + W] else []) := by
    by_cases h : c / W + 1 < H
    · rw [if_pos (by omega), if_pos h]; simp [cast]
    · rw [if_neg (by omega), if_neg h]; rfl
  rw [a1, a2, a3, a4]
  simp [cast]
def opI (m : Mp) (x : Int) : Bool := decide (0 < coA m x)
theorem nextI_nbrI {m : Mp} (V : Valid m) {c : Int} (h0 : 0 ≤ c) (hc : c < m.co.length) : nextI m c = (nbrI m c).filter (opI m) := by
  obtain ⟨c, rfl⟩ := Int.eq_ofNat_of_zero_le h0
  unfold nextI
  rw [Int.toNat_natCast, nextN_nbr V (by omega), nbrI_nbr V c]
  unfold cast
  rw [List.filter_map]
  rfl
theorem nbrI_bd {m : Mp} (V : Valid m) {c : Int} (h0 : 0 ≤ c) (hc : c < m.co.length) : ∀ x ∈ nbrI m c, 0 ≤ x ∧ x < m.co.length := by
  obtain ⟨c, rfl⟩ := Int.eq_ofNat_of_zero_le h0
  obtain ⟨W, hW⟩ := Int.eq_ofNat_of_zero_le (show 0 ≤ m.wd by have := V.w1; omega)
  obtain ⟨H, hH⟩ := Int.eq_ofNat_of_zero_le (show 0 ≤ m.ht by have := V.h1; omega)
  have hn : m.co.length = W * H := by
    have := V.n; rw [hW, hH] at this; exact_mod_cast this
  have w6 := V.w6
  have h6 := V.h6
  intro x hx
  rw [nbrI_nbr V c] at hx
  obtain ⟨k, hk, rfl⟩ := List.mem_map.1 hx
  rw [hW, hH, Int.toNat_natCast, Int.toNat_natCast, ← nbr_eq W (by omega) H (by omega) c (by omega), List.mem_filter, List.mem_range] at hk
  rw [hn]; omega
set_option maxRecDepth 100000 in
set_option maxHeartbeats 4000000 in
theorem l2Next_any {m : Mp} {v : Value} {c : Int} {w : World} (hv : MapIn w m v) (V : Valid m) (hc : 0 ≤ c) (hc2 : c < m.co.length) :
    Calls Try.prog 25 #[v, .int .i64 c] w fun e w' => ∃ A cp, e = .returned (.slice A (nextI m c).length cp) ∧ w'.ownsRow w.heap.size 3 1 (.slice A (nextI m c).length cp) (nextI m c).length (ints (nextI m c)) ∧ Below w.heap.size w w' := by
  have hv' := hv
  obtain ⟨A, n, cp, B, k, d, rfl, h1, h2, h3, h4⟩ := hv
  obtain ⟨i0, hi0, hz0, hz1, hz2⟩ := info_parts int_info
  have HL := Lib.hid h2.len
  have hk36 : k ≤ 36 := by have := V.n36; have := h2.len; omega
  have hw1 := V.w1
  have hw6 := V.w6
  have hh1 := V.h1
  have hh6 := V.h6
  have hck : c < (k : Int) := by have := HL.out; omega
  have e1 : 0 ≤ c % m.wd ∧ c % m.wd < 6 := ⟨Int.emod_nonneg _ (by omega), by have := Int.emod_lt_of_pos c (show 0 < m.wd by omega); omega⟩
  have e3 : 0 ≤ c / m.wd ∧ c / m.wd < 1000 := ⟨Int.ediv_nonneg hc (by omega), by have := Int.ediv_le_self m.wd hc; omega⟩
  obtain ⟨e11, e12⟩ := e1
  obtain ⟨e31, e32⟩ := e3
  have hw0 : (m.wd == 0) = false := by simp; omega
  have HE := Lib.hid (nextI_nbrI V hc hc2)
  have HB := Lib.hid (nbrI_bd V hc hc2)
  go_enter Try.func25, Try.ntmps25
  go_wp2_with fail
  go_quiet (fail)
  go_upto_if 20 with (fail)
  go_cut [5] (fun o wx => wx.ownsRow (w.heap.size + 1) 3 1 o (n1 m c).length (ints (n1 m c)) ∧ Blk wx w.heap.size 29 [.int .i64 m.wd, .int .i64 m.ht, .slice A n cp, .slice B k d] ∧ Below w.heap.size w wx)
  case first =>
    have o0 : (((w.alloc (.cells #[.int .i64 m.wd, .int .i64 m.ht, .slice A n cp, .slice B k d] 29)).alloc (.cells #[] 3)).drewN nq).ownsRow (w.heap.size + 1) 3 1 (.slice (some ⟨w.heap.size + 1, 0, none⟩) 0 0) ([] : List Int).length (ints ([] : List Int)) := by
      have h0 := (World.ownsRow_lit (base := w.heap.size + 1) (size := 1) (e := 3) (w.alloc (.cells #[.int .i64 m.wd, .int .i64 m.ht, .slice A n cp, .slice B k d] 29)) #[] 0 (by simp) (by simp) rfl)
      have h1 : ((w.alloc (.cells #[.int .i64 m.wd, .int .i64 m.ht, .slice A n cp, .slice B k d] 29)).alloc (.cells #[] 3)).ownsRow (w.heap.size + 1) 3 1 (.slice (some ⟨w.heap.size + 1, 0, none⟩) 0 0) 0 [] := by simpa using h0
      exact h1
    have K : Blk (((w.alloc (.cells #[.int .i64 m.wd, .int .i64 m.ht, .slice A n cp, .slice B k d] 29)).alloc (.cells #[] 3)).drewN nq) w.heap.size 29 [.int .i64 m.wd, .int .i64 m.ht, .slice A n cp, .slice B k d] := (Blk.new w 29 [.int .i64 m.wd, .int .i64 m.ht, .slice A n cp, .slice B k d]).alloc _
    have bel : Below w.heap.size w (((w.alloc (.cells #[.int .i64 m.wd, .int .i64 m.ht, .slice A n cp, .slice B k d] 29)).alloc (.cells #[] 3)).drewN nq) := (by repeat (first | exact Below.refl _ _ | refine below_drewN ?_ _ | refine Below.drew ?_ | refine Below.alloc ?_ (by first | omega | (simp; done) | (simp; omega)) _ | refine Below.setCell ?_ (by first | omega | (simp; done) | (simp; omega)) _))
    generalize (((w.alloc (.cells #[.int .i64 m.wd, .int .i64 m.ht, .slice A n cp, .slice B k d] 29)).alloc (.cells #[] 3)).drewN nq) = wc at *
    obtain ⟨k0, k1, k2, k3⟩ := blk4 K
    have hkl := K.lt
    have hll : (([] : List Int)).length ≤ 3 := by simp [n1, n2, n3] <;> (repeat' split) <;> simp
    by_cases hq : 0 < c / m.wd
    · have hL : n1 m c = ([] : List Int) ++ [c - m.wd] := by simp [n1, hq]
      have HQ := Lib.hid hL
      clear hL
      go_wp2_with (at_builtin; refine wpList_append_own _ rfl _ _ 22 rfl (w.heap.size + 1) 3 i0 (.int .i64 0) 1 8 Try.underlying22 hi0 hz0 hz1 hz2 rfl (by decide) _ _ _ rfl (o0.alloc _) ⟨wc.heap.size, 0, none⟩ 1 1 [.int .i64 (c - m.wd)] rfl rfl ?c1 ?c2 ?c3 ?c4 ?c5 ?_)
      case c1 => exact cell_one_new (wc) _ _
      case c2 => intro u hu; simp at hu; subst hu; rfl
      case c3 => simp only [maxLen]; omega
      case c4 => omega
      case c5 => simp; omega
      intro v2 w2 own1 grow1 _
      have bel1 : Below w.heap.size w w2 := (Below.alloc (bel) (by have := (bel).size; omega) _).grown grow1 (by have := (bel).size; simp; omega) (fun j hj => by have := (o0.lt j hj).1; omega)
      have e1 : ints (([] : List Int)) ++ [Value.int .i64 (c - m.wd)] = ints (([] : List Int) ++ [c - m.wd]) := by simp [ints]
      rw [e1] at own1
      clear e1
      have K2 := (K.alloc (.cells #[.int .i64 (c - m.wd)] 3)).grown grow1 (by intro h; have := (o0.lt _ h.symm).1; omega)
      go_wp2_with fail
      go_meet
      exact ⟨by rw [HQ.out, List.length_append]; exact own1, K2, bel1⟩
    · have hL : n1 m c = ([] : List Int) := by simp [n1, hq]
      have HQ := Lib.hid hL
      clear hL
      go_wp2_with fail
      go_meet
      exact ⟨by rw [HQ.out]; exact o0, K, bel⟩
  case rest =>
  obtain ⟨o1, K, bel⟩ := hcut
  obtain ⟨k0, k1, k2, k3⟩ := blk4 K
  go_upto_if 29 with (fail)
  go_cut [5] (fun o wx => wx.ownsRow (w.heap.size + 1) 3 1 o (n1 m c ++ n2 m c).length (ints (n1 m c ++ n2 m c)) ∧ Blk wx w.heap.size 29 [.int .i64 m.wd, .int .i64 m.ht, .slice A n cp, .slice B k d] ∧ Below w.heap.size w wx)
  case first =>
    have hkl := K.lt
    have hll : (n1 m c).length ≤ 3 := by simp [n1, n2, n3] <;> (repeat' split) <;> simp
    by_cases hq : 0 < c % m.wd
    · have hL : n1 m c ++ n2 m c = n1 m c ++ [c - 1] := by simp [n2, hq]
      generalize n1 m c = P at *
      have HQ := Lib.hid hL
      clear hL
      go_wp2_with (at_builtin; refine wpList_append_own _ rfl _ _ 22 rfl (w.heap.size + 1) 3 i0 (.int .i64 0) 1 8 Try.underlying22 hi0 hz0 hz1 hz2 rfl (by decide) _ _ _ rfl (o1.alloc _) ⟨wc.heap.size, 0, none⟩ 1 1 [.int .i64 (c - 1)] rfl rfl ?c1 ?c2 ?c3 ?c4 ?c5 ?_)
      case c1 => exact cell_one_new (wc) _ _
      case c2 => intro u hu; simp at hu; subst hu; rfl
      case c3 => simp only [maxLen]; omega
      case c4 => omega
      case c5 => simp; omega
      intro v2 w2 own1 grow1 _
      have bel1 : Below w.heap.size w w2 := (Below.alloc (bel) (by have := (bel).size; omega) _).grown grow1 (by have := (bel).size; simp; omega) (fun j hj => by have := (o1.lt j hj).1; omega)
      have e1 : ints (P) ++ [Value.int .i64 (c - 1)] = ints (P ++ [c - 1]) := by simp [ints]
      rw [e1] at own1
      clear e1
      have K2 := (K.alloc (.cells #[.int .i64 (c - 1)] 3)).grown grow1 (by intro h; have := (o1.lt _ h.symm).1; omega)
      go_wp2_with fail
      go_meet
      exact ⟨by rw [HQ.out, List.length_append]; exact own1, K2, bel1⟩
    · have hL : n1 m c ++ n2 m c = n1 m c := by simp [n2, hq]
      have HQ := Lib.hid hL
      clear hL
      go_wp2_with fail
      go_meet
      exact ⟨by rw [HQ.out]; exact o1, K, bel⟩
  case rest =>
  obtain ⟨o2, K, bel⟩ := hcut
  obtain ⟨k0, k1, k2, k3⟩ := blk4 K
  go_upto_if 39 with (fail)
  go_cut [5] (fun o wx => wx.ownsRow (w.heap.size + 1) 3 1 o (n1 m c ++ n2 m c ++ n3 m c).length (ints (n1 m c ++ n2 m c ++ n3 m c)) ∧ Blk wx w.heap.size 29 [.int .i64 m.wd, .int .i64 m.ht, .slice A n cp, .slice B k d] ∧ Below w.heap.size w wx)
  case first =>
    have hkl := K.lt
    have hll : (n1 m c ++ n2 m c).length ≤ 3 := by simp [n1, n2, n3] <;> (repeat' split) <;> simp
    by_cases hq : c % m.wd + 1 < m.wd
    · have hL : n1 m c ++ n2 m c ++ n3 m c = n1 m c ++ n2 m c ++ [c + 1] := by simp [n3, hq]
      generalize n1 m c ++ n2 m c = P at *
      have HQ := Lib.hid hL
      clear hL
      go_wp2_with (at_builtin; refine wpList_append_own _ rfl _ _ 22 rfl (w.heap.size + 1) 3 i0 (.int .i64 0) 1 8 Try.underlying22 hi0 hz0 hz1 hz2 rfl (by decide) _ _ _ rfl (o2.alloc _) ⟨wc.heap.size, 0, none⟩ 1 1 [.int .i64 (c + 1)] rfl rfl ?c1 ?c2 ?c3 ?c4 ?c5 ?_)
      case c1 => exact cell_one_new (wc) _ _
      case c2 => intro u hu; simp at hu; subst hu; rfl
      case c3 => simp only [maxLen]; omega
      case c4 => omega
      case c5 => simp; omega
      intro v2 w2 own1 grow1 _
      have bel1 : Below w.heap.size w w2 := (Below.alloc (bel) (by have := (bel).size; omega) _).grown grow1 (by have := (bel).size; simp; omega) (fun j hj => by have := (o2.lt j hj).1; omega)
      have e1 : ints (P) ++ [Value.int .i64 (c + 1)] = ints (P ++ [c + 1]) := by simp [ints]
      rw [e1] at own1
      clear e1
      have K2 := (K.alloc (.cells #[.int .i64 (c + 1)] 3)).grown grow1 (by intro h; have := (o2.lt _ h.symm).1; omega)
      go_wp2_with fail
      go_meet
      exact ⟨by rw [HQ.out, List.length_append]; exact own1, K2, bel1⟩
    · have hL : n1 m c ++ n2 m c ++ n3 m c = n1 m c ++ n2 m c := by simp [n3, hq]
      have HQ := Lib.hid hL
      clear hL
      go_wp2_with fail
      go_meet
      exact ⟨by rw [HQ.out]; exact o2, K, bel⟩
  case rest =>
  obtain ⟨o3, K, bel⟩ := hcut
  obtain ⟨k0, k1, k2, k3⟩ := blk4 K
  go_upto_if 49 with (fail)
  go_cut [5] (fun o wx => wx.ownsRow (w.heap.size + 1) 3 1 o (n1 m c ++ n2 m c ++ n3 m c ++ n4 m c).length (ints (n1 m c ++ n2 m c ++ n3 m c ++ n4 m c)) ∧ Blk wx w.heap.size 29 [.int .i64 m.wd, .int .i64 m.ht, .slice A n cp, .slice B k d] ∧ Below w.heap.size w wx)
  case first =>
    have hkl := K.lt
    have hll : (n1 m c ++ n2 m c ++ n3 m c).length ≤ 3 := by simp [n1, n2, n3] <;> (repeat' split) <;> simp
    by_cases hq : c / m.wd + 1 < m.ht
    · have hL : n1 m c ++ n2 m c ++ n3 m c ++ n4 m c = n1 m c ++ n2 m c ++ n3 m c ++ [c + m.wd] := by simp [n4, hq]
      generalize n1 m c ++ n2 m c ++ n3 m c = P at *
      have HQ := Lib.hid hL
      clear hL
      go_wp2_with (at_builtin; refine wpList_append_own _ rfl _ _ 22 rfl (w.heap.size + 1) 3 i0 (.int .i64 0) 1 8 Try.underlying22 hi0 hz0 hz1 hz2 rfl (by decide) _ _ _ rfl (o3.alloc _) ⟨wc.heap.size, 0, none⟩ 1 1 [.int .i64 (c + m.wd)] rfl rfl ?c1 ?c2 ?c3 ?c4 ?c5 ?_)
      case c1 => exact cell_one_new (wc) _ _
      case c2 => intro u hu; simp at hu; subst hu; rfl
      case c3 => simp only [maxLen]; omega
      case c4 => omega
      case c5 => simp; omega
      intro v2 w2 own1 grow1 _
      have bel1 : Below w.heap.size w w2 := (Below.alloc (bel) (by have := (bel).size; omega) _).grown grow1 (by have := (bel).size; simp; omega) (fun j hj => by have := (o3.lt j hj).1; omega)
      have e1 : ints (P) ++ [Value.int .i64 (c + m.wd)] = ints (P ++ [c + m.wd]) := by simp [ints]
      rw [e1] at own1
      clear e1
      have K2 := (K.alloc (.cells #[.int .i64 (c + m.wd)] 3)).grown grow1 (by intro h; have := (o3.lt _ h.symm).1; omega)
      go_wp2_with fail
      go_meet
      exact ⟨by rw [HQ.out, List.length_append]; exact own1, K2, bel1⟩
    · have hL : n1 m c ++ n2 m c ++ n3 m c ++ n4 m c = n1 m c ++ n2 m c ++ n3 m c := by simp [n4, hq]
      have HQ := Lib.hid hL
      clear hL
      go_wp2_with fail
      go_meet
      exact ⟨by rw [HQ.out]; exact o3, K, bel⟩
  case rest =>
  obtain ⟨o4, K, bel⟩ := hcut
  obtain ⟨k0, k1, k2, k3⟩ := blk4 K
  have hL4 : n1 m c ++ n2 m c ++ n3 m c ++ n4 m c = nbrI m c := rfl
  rw [hL4] at o4
  clear hL4
  have hln := nbrI_len m c
  generalize nbrI m c = L at *
  obtain ⟨A0, c0, rfl⟩ := own_form o4
  have RO := Rd.of_own o4
  have hwc := bel.size
  go_wp2_with fail
  go_loopw [8, 9] (fun o i wr => ∃ j : Nat, j ≤ L.length ∧ i = .int .i64 j ∧ wr.ownsRow wc.heap.size 3 1 o ((L.take j).filter (opI m)).length (ints ((L.take j).filter (opI m))) ∧ Below wc.heap.size wc wr) (fun _ i _ => L.length - (intOf i).toNat)
  case atStart =>
    refine ⟨0, Nat.zero_le _, rfl, ?_, (by repeat (first | exact Below.refl _ _ | refine below_drewN ?_ _ | refine Below.drew ?_ | refine Below.alloc ?_ (by first | omega | (simp; done) | (simp; omega)) _ | refine Below.setCell ?_ (by first | omega | (simp; done) | (simp; omega)) _))⟩
    have h0 := World.ownsRow_lit (base := wc.heap.size) (size := 1) (e := 3) wc #[] 0 (by simp) (by simp) rfl
    simpa [ints] using h0
  case round =>
    obtain ⟨j, hj, rfl, hown, hbel⟩ := hrel
    have hK := K.below hbel K.lt
    obtain ⟨k0, k1, k2, k3⟩ := blk4 hK
    have hlj : ((L.take j).filter (opI m)).length ≤ 4 := by have := List.length_filter_le (opI m) (L.take j); have := List.length_take_le j L; omega
    by_cases hlt : j < L.length
    · obtain ⟨b, off, rfl, hbb, hca⟩ := RO.int hlt
      have c1 := (hbel.cell (p := ⟨b, off + j, none⟩) hbb).trans (hca j hlt)
      obtain ⟨x0, x1⟩ := HB.out L[j] (List.getElem_mem hlt)
      obtain ⟨x, hx⟩ := Int.eq_ofNat_of_zero_le x0
      have kx : x < m.co.length := by omega
      have hxk : (x : Int) < (k : Int) := by have := HL.out; omega
      obtain ⟨y, oy, rfl, hyb, hy⟩ := Rd.int h2 (k := x) (by omega)
      have c3 := ((bel.trans (hbel.mono hwc)).cell (p := ⟨y, oy + x, none⟩) hyb).trans (hy x kx)
      rw [← coA_nat] at c3
      have HT : Hid ((L.take (j + 1)).filter (opI m) = (L.take j).filter (opI m) ++ (if opI m L[j] then [L[j]] else [])) := by
        show _ = _
        rw [List.take_succ_eq_append_getElem hlt, List.filter_append]
        cases h : opI m L[j] <;> simp [h]
      rw [hx] at c1 x0 x1
      have HX := Lib.hid hx
      clear hx hy hca
      by_cases hpos : 0 < coA m x
      · have hL : (L.take (j + 1)).filter (opI m) = (L.take j).filter (opI m) ++ [(x : Int)] := by
          rw [HT.out, HX.out]; simp [opI, hpos]
        have HQ := Lib.hid hL
        clear hL HT
        generalize coA m x = cx at *
        go_wp2_with fail
        go_quiet (fail)
        have howd : (wr.drewN nq).ownsRow wc.heap.size 3 1 u8 ((L.take j).filter (opI m)).length (ints ((L.take j).filter (opI m))) := hown
        have hbeld := below_drewN hbel nq
        have hsz2 := hbel.size
        clear hown
        go_wp2_with (at_builtin; refine wpList_append_own _ rfl _ _ 22 rfl (wc.heap.size) 3 i0 (.int .i64 0) 1 8 Try.underlying22 hi0 hz0 hz1 hz2 rfl (by decide) _ _ _ rfl (howd.alloc _) ⟨wr.heap.size, 0, none⟩ 1 1 [.int .i64 ((x : Int))] rfl rfl ?c1 ?c2 ?c3 ?c4 ?c5 ?_)
        case c1 => exact cell_one_new (wr.drewN nq) _ _
        case c2 => intro u hu; simp at hu; subst hu; rfl
        case c3 => simp only [maxLen]; omega
        case c4 => omega
        case c5 => simp; omega
        intro v2 w2 own1 grow1 _
        have bel1 : Below wc.heap.size wc w2 := (Below.alloc (hbeld) (by have := (hbeld).size; omega) _).grown grow1 (by have := (hbeld).size; simp; omega) (fun j hj => by have := (howd.lt j hj).1; omega)
        have e1 : ints ((L.take j).filter (opI m)) ++ [Value.int .i64 ((x : Int))] = ints ((L.take j).filter (opI m) ++ [(x : Int)]) := by simp [ints]
        rw [e1] at own1
        clear e1
        go_wp2_with fail
        go_roundw
        case rel => exact ⟨j + 1, by omega, by go_num, by rw [HQ.out, List.length_append]; exact own1, bel1⟩
        case measure => simp [intOf]; omega
      · have hL : (L.take (j + 1)).filter (opI m) = (L.take j).filter (opI m) := by
          rw [HT.out, HX.out]; simp [opI, hpos]
        have HQ := Lib.hid hL
        have hpd : decide (0 < coA m x) = false := by simpa using hpos
        clear hL HT
        generalize coA m x = cx at *
        go_wp2_with fail
        go_quiet (fail)
        go_wp2_with fail
        go_roundw
        case rel => exact ⟨j + 1, by omega, by go_num, by rw [HQ.out]; exact hown, below_drewN hbel nq⟩
        case measure => simp [intOf]; omega
    · have hjk : j = L.length := by omega
      have HJ := Lib.hid hjk
      clear hjk
      obtain ⟨A', c', rfl⟩ := own_form hown
      have eL : (L.take j).filter (opI m) = nextI m c := by rw [HE.out, HJ.out, List.take_length]
      rw [eL] at hown ⊢
      clear eL
      go_wp2_with fail
      go_ret
      exact ⟨A', c', rfl, own_le hown hwc, bel.trans (hbel.mono hwc)⟩
end Go.Proofs.Ytdjdjceemfaigaa
