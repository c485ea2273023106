/- Rows of rows of ints of the call's own, apart from each other; the laws' functions over them; the library's sort of ints. -/
import Derived.Test.YtdjdjceemfaigaaPut
import Derived.Test.YtdjdjceemfaigaaShelf
import Derived.Sort.OwnSorted
import Derived.Test.YtdjdjceemfaigaaRg
namespace Go.Proofs.Ytdjdjceemfaigaa
set_option linter.unusedVariables false
set_option linter.unusedSimpArgs false
open Go.RowKit
theorem nodup_inj {l : List Nat} (h : l.Nodup) {i j : Nat} (hi : i < l.length) (hj : j < l.length) (e : l[i] = l[j]) : i = j := by
  rcases Nat.lt_trichotomy i j with h1 | h1 | h1
  · exact absurd e (List.pairwise_iff_getElem.1 h i j hi hj h1)
  · exact h1
  · exact absurd e.symm (List.pairwise_iff_getElem.1 h j i hj hi h1)
theorem ch_refl9 {S : Nat → Prop} (w : World) : Ch S w w := Ch.of_below (Below.refl _ _)
theorem ch_weak {S T : Nat → Prop} {w w' : World} (h : Ch S w w') (hT : ∀ j, S j → T j) : Ch T w w' := ⟨h.os, h.tape, h.output, h.size, fun k hk hs => h.block k hk (fun e => hs (hT k e))⟩
structure Rw where
  g : Nat
  cc : Nat
  l : List Int
def Rw.val (r : Rw) : Value := .slice (some ⟨r.g, 0, none⟩) r.l.length r.cc
structure Nest (w : World) (base : Nat) (A : Option Addr) (c n : Nat) (rs : List Rw) : Prop where
  len : rs.length = n
  out : w.ownsRow base 22 1 (.slice A n c) n (rs.map Rw.val)
  inn : ∀ r ∈ rs, w.ownsRow base 3 1 r.val r.l.length (ints r.l)
  off : ∀ r ∈ rs, Value.ownBlock (.slice A n c) ≠ some r.g
  nd : (rs.map Rw.g).Nodup
theorem Rw.own_g (r : Rw) : Value.ownBlock r.val = some r.g := rfl
theorem Nest.ch {S : Nat → Prop} {w w' : World} {base : Nat} {A : Option Addr} {c n : Nat} {rs : List Rw} (h : Nest w base A c n rs) (hc : Ch S w w') (hA : ∀ k, Value.ownBlock (.slice A n c) = some k → ¬ S k) (hI : ∀ r ∈ rs, ¬ S r.g) : Nest w' base A c n rs :=
  ⟨h.len, own_ch h.out hc hA, fun r hr => own_ch (h.inn r hr) hc (fun k hk => by rw [Rw.own_g] at hk; injection hk with hk; rw [← hk]; exact hI r hr), h.off, h.nd⟩
theorem Nest.on {w w' : World} {base : Nat} {A : Option Addr} {c n : Nat} {rs : List Rw} (h : Nest w base A c n rs) (hb : Below w.heap.size w w') : Nest w' base A c n rs :=
  ⟨h.len, own_below h.out hb, fun r hr => own_below (h.inn r hr) hb, h.off, h.nd⟩
theorem Nest.alloc {w : World} {base : Nat} {A : Option Addr} {c n : Nat} {rs : List Rw} (h : Nest w base A c n rs) (o : Obj) : Nest (w.alloc o) base A c n rs := h.on (Below.alloc (Below.refl _ _) (Nat.le_refl _) o)
theorem Nest.le {w : World} {base base' : Nat} {A : Option Addr} {c n : Nat} {rs : List Rw} (h : Nest w base A c n rs) (hb : base' ≤ base) : Nest w base' A c n rs :=
  ⟨h.len, own_le h.out hb, fun r hr => own_le (h.inn r hr) hb, h.off, h.nd⟩
theorem Nest.lt {w : World} {base : Nat} {A : Option Addr} {c n : Nat} {rs : List Rw} (h : Nest w base A c n rs) : (∀ k, Value.ownBlock (.slice A n c) = some k → base ≤ k ∧ k < w.heap.size) ∧ ∀ r ∈ rs, base ≤ r.g ∧ r.g < w.heap.size :=
  ⟨h.out.lt, fun r hr => (h.inn r hr).lt r.g (Rw.own_g r)⟩
theorem Nest.nil_ {w : World} {base c : Nat} {A : Option Addr} (h : w.ownsRow base 22 1 (.slice A 0 c) 0 []) : Nest w base A c 0 [] :=
  ⟨rfl, h, (fun r hr => absurd hr List.not_mem_nil), (fun r hr => absurd hr List.not_mem_nil), List.nodup_nil⟩
theorem nest_info : (Try.prog.info? 22).map (fun i => (i.zero, i.size, i.bytes)) = some (some (.slice none 0 0), 1, 24) := by kernel_rfl
theorem vals_one (rs : List Rw) : ∀ u ∈ rs.map Rw.val, u.oneCell' = true := by
  intro u hu
  obtain ⟨x, _, rfl⟩ := List.mem_map.1 hu
  rfl
/-- One more row is put behind. -/
theorem Nest.push {w w7 : World} {base : Nat} {A A7 : Option Addr} {c c7 n : Nat} {rs : List Rw} {r : Rw} (h : Nest w base A c n rs) (O : w.ownsRow base 3 1 r.val r.l.length (ints r.l)) (h1 : Value.ownBlock (.slice A n c) ≠ some r.g) (h2 : ∀ x ∈ rs, x.g ≠ r.g)
    (own7 : w7.ownsRow base 22 1 (.slice A7 (n + 1) c7) (n + 1) (rs.map Rw.val ++ [r.val])) (grow7 : w.grownBy w7 (Value.ownBlock (.slice A n c))) (at7 : ∀ q : Nat, Value.ownBlock (.slice A7 (n + 1) c7) = some q → Value.ownBlock (.slice A n c) = some q ∨ w.heap.size ≤ q) :
    Nest w7 base A7 c7 (n + 1) (rs ++ [r]) := by
  have hc : Ch (fun j => Value.ownBlock (.slice A n c) = some j) w w7 := Ch.of_grown grow7 (fun _ h => h)
  refine ⟨by rw [List.length_append, h.len]; rfl, by rw [List.map_append]; exact own7, ?_, ?_, ?_⟩
  · intro x hx
    rcases List.mem_append.1 hx with h9 | h9
    · exact own_ch (h.inn x h9) hc (fun k hk => by rw [Rw.own_g] at hk; injection hk with hk; rw [← hk]; exact h.off x h9)
    · rw [List.mem_singleton.1 h9]
      exact own_ch O hc (fun k hk => by rw [Rw.own_g] at hk; injection hk with hk; rw [← hk]; exact h1)
  · intro x hx e
    have hlt : x.g < w.heap.size ∧ Value.ownBlock (.slice A n c) ≠ some x.g := by
      rcases List.mem_append.1 hx with h9 | h9
      · exact ⟨(h.lt.2 x h9).2, h.off x h9⟩
      · rw [List.mem_singleton.1 h9]; exact ⟨(O.lt r.g (Rw.own_g r)).2, h1⟩
    rcases at7 x.g e with h9 | h9
    · exact hlt.2 h9
    · omega
  · rw [List.map_append, List.nodup_append]
    refine ⟨h.nd, by simp, ?_⟩
    intro a ha b hb e
    obtain ⟨x, hx, rfl⟩ := List.mem_map.1 ha
    have e2 : b = r.g := by simpa using hb
    exact h2 x hx (by rw [e, e2])
theorem Nest.row {w : World} {base : Nat} {A : Option Addr} {c n k : Nat} {rs : List Rw} (h : Nest w base A c n rs) (hk : k < n) : ∃ ga : Nat, A = some ⟨ga, 0, none⟩ ∧ ga < w.heap.size ∧ ∃ hk' : k < rs.length, w.cell? ⟨ga, k, none⟩ = some (.slice (some ⟨(rs[k]).g, 0, none⟩) (rs[k]).l.length (rs[k]).cc) ∧ w.ownsRow base 3 1 (.slice (some ⟨(rs[k]).g, 0, none⟩) (rs[k]).l.length (rs[k]).cc) (rs[k]).l.length (ints (rs[k]).l) := by
  obtain ⟨ga, rfl, _, hlt⟩ := own_at h.out (by omega)
  have hk' : k < rs.length := by rw [h.len]; exact hk
  obtain ⟨b, off, e, _, hc⟩ := (Rd.of_own h.out).2 (by omega)
  obtain ⟨rfl, rfl⟩ : ga = b ∧ 0 = off := by simpa using e
  have h9 := hc k (rs[k]).val (by rw [List.getElem?_map, List.getElem?_eq_getElem hk']; rfl)
  rw [Nat.zero_add] at h9
  exact ⟨ga, rfl, hlt, hk', h9, h.inn _ (List.getElem_mem hk')⟩
theorem sortI_any {g n c base : Nat} {zs : List Int} {w : World} (h : w.ownsRow base 3 1 (.slice (some ⟨g, 0, none⟩) n c) n (ints zs)) (hn : n ≤ 1000) (h0 : 0 < n) :
    Calls Try.prog 19 #[.slice (some ⟨g, 0, none⟩) n c] w fun e w' => e = .returned (.tuple #[]) ∧ w'.ownsRow base 3 1 (.slice (some ⟨g, 0, none⟩) n c) n (ints (zs.mergeSort fun x y => decide (x ≤ y))) ∧ w.grownBy w' (some g) := by
  have hl : zs.length = n := by have := h.1; simpa [ints] using this
  rcases h.2 with ⟨_, e⟩ | ⟨g', cap, cur, hv, hb, hg, h1, h2, h3, h4⟩
  · omega
  · simp only [Value.slice.injEq, Option.some.injEq, Addr.mk.injEq, and_true, true_and] at hv
    obtain ⟨rfl, rfl⟩ := hv
    have hlt : g < w.heap.size := (Array.getElem?_eq_some_iff.1 hg).1
    have hH : Sort.Holds (Value.int .i64) w g 0 zs.toArray := by
      intro j hj
      have hj' : j < zs.length := by simpa using hj
      refine ⟨?_, by simp [World.frozen?, hg]⟩
      have h5 := (Rd.of_own h).2 h0
      obtain ⟨b, off, e, _, hc⟩ := h5
      obtain ⟨rfl, rfl⟩ : g = b ∧ 0 = off := by simpa using e
      have h6 := hc j (.int .i64 zs[j]) (ints_get hj')
      simpa [List.getElem?_eq_getElem hj'] using h6
    subst hl
    refine (Try.slices_Sort_int g 0 c zs w hH hlt (by omega)).mono fun e w' ⟨he, k, os, hw⟩ => ⟨he, ?_, ?_⟩
    · rw [hw]
      refine ⟨by simp [ints], .inr ⟨g, c, Sort.putCells (Value.int .i64) 0 (zs.mergeSort fun x y => decide (x ≤ y)).toArray cur, rfl, hb, ?_, h1, h2, by simp [Sort.putCells, h3], ?_⟩⟩
      · rw [Sort.heap_grow_old _ _ (by simpa using hlt)]
        simp [Sort.putRow, Sort.mapBlock, Sort.ahead, Array.getElem?_modify, hg, Sort.onCells]
      · have hts : (zs.mergeSort fun x y => decide (x ≤ y)).length = zs.length := by simp
        have hcs : zs.length ≤ cur.size := by omega
        rw [Nat.mul_one]
        generalize (zs.mergeSort fun x y => decide (x ≤ y)) = ts at *
        apply List.ext_getElem?
        intro j
        by_cases hj : j < ts.length
        · rw [List.getElem?_take_of_lt (by omega), Array.getElem?_toList]
          simp [Sort.putCells, ints, hj, show j < cur.size by omega]
        · rw [List.getElem?_eq_none (by rw [List.length_take]; omega), List.getElem?_eq_none (by simp [ints]; omega)]
    · rw [hw]
      refine ⟨rfl, rfl, rfl, by simp, fun q hq hne => ?_⟩
      rw [Sort.heap_grow_old _ _ (by simpa using hq)]
      have : g ≠ q := fun e => hne (by rw [e])
      simp [Sort.putRow, Sort.mapBlock, Sort.ahead, Array.getElem?_modify, this]
def tot (rs : List Rw) : Nat := (rs.map fun r => r.l.length).sum
theorem tot_next {rs : List Rw} {k : Nat} (hk : k < rs.length) : tot (rs.take (k + 1)) = tot (rs.take k) + (rs[k]).l.length := by
  unfold tot
  rw [List.take_succ_eq_append_getElem hk, List.map_append, List.sum_append]
  simp
theorem tot_le {rs : List Rw} {b : Nat} (h : ∀ r ∈ rs, r.l.length ≤ b) : tot rs ≤ b * rs.length := by
  unfold tot
  induction rs with
  | nil => simp
  | cons a l ih =>
    have h1 := h a (List.mem_cons_self ..)
    have h2 := ih (fun x hx => h x (List.mem_cons_of_mem _ hx))
    rw [List.map_cons, List.sum_cons, List.length_cons, Nat.mul_succ]
    omega
/-- All rows bear marks, one number after the other. -/
structure Marked (w : World) (base : Nat) (A : Option Addr) (c n : Nat) (rs : List Rw) : Prop where
  len : rs.length = n
  out : w.ownsRow base 22 1 (.slice A n c) n (rs.map Rw.val)
  inn : ∀ (e : Nat) (he : e < rs.length), w.ownsRow base 3 1 (rs[e]).val (rs[e]).l.length (marksI (1 + (tot (rs.take e) : Nat)) (rs[e]).l.length)
theorem Marked.on {w w' : World} {base : Nat} {A : Option Addr} {c n : Nat} {rs : List Rw} (h : Marked w base A c n rs) (hb : Below w.heap.size w w') : Marked w' base A c n rs :=
  ⟨h.len, own_below h.out hb, fun e he => own_below (h.inn e he) hb⟩
set_option maxHeartbeats 2000000 in
theorem eqIntSS_b {A B : Option Addr} {c d n b1 b2 : Nat} {rs rs' : List Rw} {w : World} (h1 : Nest w b1 A c n rs) (h2 : Nest w b2 B d n rs') (he : rs.map Rw.l = rs'.map Rw.l) (hn : n ≤ 1000) (hb1 : ∀ r ∈ rs, r.l.length ≤ 1000) :
    Calls Try.prog 8 #[.slice A n c, .slice B n d] w fun e w' => e = .returned (.bool true) ∧ Below w.heap.size w w' := by
  have hne : ((n : Int) != (n : Int)) = false := by simp
  have HE := Lib.hid he
  have HB := Lib.hid hb1
  have N1 := Lib.hid h1
  have N2 := Lib.hid h2
  clear he hb1 h1 h2
  go_enter Try.func8, Try.ntmps8
  go_wp2_with fail
  go_loopw [5] (fun i wr => ∃ k : Nat, k ≤ n ∧ i = .int .i64 k ∧ Below w.heap.size w wr) (fun i _ => n - (intOf i).toNat)
  case atStart => exact ⟨0, Nat.zero_le _, rfl, Below.refl _ _⟩
  case round =>
    obtain ⟨k, hk, rfl, G⟩ := hrel
    by_cases hlt : k < n
    · obtain ⟨ga, rfl, hga, ka, ca, oa⟩ := N1.out.row hlt
      obtain ⟨gb, rfl, hgb, kb, cb, ob⟩ := N2.out.row hlt
      have hll : (rs[k]).l = (rs'[k]).l := by
        have h9 := congrArg (fun x : List (List Int) => x[k]?) HE.out
        simp only [List.getElem?_map, List.getElem?_eq_getElem ka, List.getElem?_eq_getElem kb, Option.map_some] at h9
        exact Option.some.inj h9
      have hlb := HB.out _ (List.getElem_mem ka)
      have Ra := Rd.of_own oa
      have Rb := Rd.of_own ob
      rw [← hll] at cb Rb
      clear oa ob hll
      generalize (rs[k]).l = x at *
      generalize (rs[k]).g = g1 at *
      generalize (rs[k]).cc = c1 at *
      generalize (rs'[k]).g = g2 at *
      generalize (rs'[k]).cc = c2 at *
      generalize hxl : x.length = xl at *
      clear hxl
      have hp1 : IntKind.i64.wrap ((k : Int) + 1) = (k : Int) + 1 := IntWalk.i64_in _ (by omega)
      have hki : (k : Int) < (n : Int) := by omega
      have HRA := Lib.hid Ra
      have HRB := Lib.hid Rb
      clear Ra Rb
      go_upto_region 6 with (fail)
      refine wp_region_held_drew (S := fun w' => Below w.heap.size w w') (by kernel_rfl) ?_ (fun hHeld => ?_)
      · (try dsimp only)
        exact G.drew
      replace G := G.drew; generalize wr.drew = wx at *
      refine rgTake (i := 0) (d := 17) (v := ?_) rfl rfl (by kernel_rfl) (by kernel_rfl) (by kernel_rfl) (fun _ _ _ h => h) (by rfl) ?_ (by assumption) ?_
      rotate_left
      · ((intro w hSw); (try dsimp only at hSw); go_simp; (try with_reducible rfl))
      try simp only [Act.put, List.setIfInBounds_toArray, List.set_cons_zero, List.set_cons_succ]
      refine rgTake (i := 1) (d := 18) (v := ?_) rfl rfl (by kernel_rfl) (by kernel_rfl) (by kernel_rfl) (fun _ _ _ h => h) (by rfl) ?_ (by assumption) ?_
      rotate_left
      · ((intro w hSw); (try dsimp only at hSw); go_simp; (try with_reducible rfl))
      try simp only [Act.put, List.setIfInBounds_toArray, List.set_cons_zero, List.set_cons_succ]
      refine rgTake (i := 2) (d := 19) (v := ?_) rfl rfl (by kernel_rfl) (by kernel_rfl) (by kernel_rfl) (fun _ _ _ h => h) (by rfl) ?_ (by assumption) ?_
      rotate_left
      · ((intro w hSw); (try dsimp only at hSw); go_simp; (try with_reducible rfl))
      try simp only [Act.put, List.setIfInBounds_toArray, List.set_cons_zero, List.set_cons_succ]
      refine rgTake (i := 3) (d := 20) (v := ?_) rfl rfl (by kernel_rfl) (by kernel_rfl) (by kernel_rfl) (fun _ _ _ h => h) (by rfl) ?_ (by assumption) ?_
      rotate_left
      · ((intro w hSw); (try dsimp only at hSw); (have za := ((bcell hSw).1 ga k hga).trans ca; have zb := ((bcell hSw).1 gb k hgb).trans cb); go_simp; (try with_reducible rfl))
      try simp only [Act.put, List.setIfInBounds_toArray, List.set_cons_zero, List.set_cons_succ]
      refine rgTake (i := 4) (d := 21) (v := ?_) rfl rfl (by kernel_rfl) (by kernel_rfl) (by kernel_rfl) (fun _ _ _ h => h) (by rfl) ?_ (by assumption) ?_
      rotate_left
      · ((intro w hSw); (try dsimp only at hSw); go_simp; (try with_reducible rfl))
      try simp only [Act.put, List.setIfInBounds_toArray, List.set_cons_zero, List.set_cons_succ]
      refine rgTake (i := 5) (d := 22) (v := ?_) rfl rfl (by kernel_rfl) (by kernel_rfl) (by kernel_rfl) (fun _ _ _ h => h) (by rfl) ?_ (by assumption) ?_
      rotate_left
      · ((intro w hSw); (try dsimp only at hSw); go_simp; (try with_reducible rfl))
      try simp only [Act.put, List.setIfInBounds_toArray, List.set_cons_zero, List.set_cons_succ]
      refine rgTake (i := 6) (d := 23) (v := ?_) rfl rfl (by kernel_rfl) (by kernel_rfl) (by kernel_rfl) (fun _ _ _ h => h) (by rfl) ?_ (by assumption) ?_
      rotate_left
      · ((intro w hSw); (try dsimp only at hSw); go_simp; (try with_reducible rfl))
      try simp only [Act.put, List.setIfInBounds_toArray, List.set_cons_zero, List.set_cons_succ]
      refine rgTake (i := 7) (d := 24) (v := ?_) rfl rfl (by kernel_rfl) (by kernel_rfl) (by kernel_rfl) (fun _ _ _ h => h) (by rfl) ?_ (by assumption) ?_
      rotate_left
      · ((intro w hSw); (try dsimp only at hSw); (have za := ((bcell hSw).1 ga k hga).trans ca; have zb := ((bcell hSw).1 gb k hgb).trans cb); go_simp; (try with_reducible rfl))
      try simp only [Act.put, List.setIfInBounds_toArray, List.set_cons_zero, List.set_cons_succ]
      refine wpAnyH_ready (rs := [8]) (by kernel_rfl) (by simp) ?_
      refine AllReadyH.cons rfl (fun K hK => ?_) AllReadyH.nil
      go_simp
      refine (eqIntS_b (xs := x) (HRA.out.below G) (HRB.out.below G) (by simp only [maxLen]; omega)).mono ?_; rintro e wz ⟨rfl, hb⟩; replace G := G.trans (hb.mono G.size)
      go_wp2_with fail
      refine hK.out _ _ ?_ (fun hHeld => ?_)
      · (try dsimp only)
        exact G
      clear hK K
      try simp only [Act.put, List.setIfInBounds_toArray, List.set_cons_zero, List.set_cons_succ]
      refine rgTake (i := 9) (d := 26) (v := ?_) rfl rfl (by kernel_rfl) (by kernel_rfl) (by kernel_rfl) (fun _ _ _ h => h) (by rfl) ?_ (by assumption) ?_
      rotate_left
      · ((intro w hSw); (try dsimp only at hSw); go_simp; (try with_reducible rfl))
      try simp only [Act.put, List.setIfInBounds_toArray, List.set_cons_zero, List.set_cons_succ]
      refine wpAnyH_done (by kernel_rfl) ?_ _
      go_wp2_with fail
      go_roundw
      case rel => exact ⟨k + 1, by omega, by go_num, G⟩
      case measure => simp [intOf]; omega
    · go_wp2_with fail
      go_ret
      exact ⟨rfl, G⟩
set_option maxHeartbeats 2000000 in
theorem markIntSS_any {A : Option Addr} {c n base : Nat} {rs : List Rw} {w : World} (h : Nest w base A c n rs) (hn : n ≤ 1000) (ht : tot rs ≤ 100000) :
    Calls Try.prog 11 #[.slice A n c, .int .i64 1] w fun e w' => e = .returned (.int .i64 (1 + (tot rs : Nat))) ∧ Marked w' base A c n rs ∧ Ch (fun j => ∃ r ∈ rs, j = r.g) w w' := by
  have hlen := h.len
  have HN := Lib.hid h
  have HLN := Lib.hid hlen
  have HTM : Hid (∀ k, k ≤ rs.length → tot (rs.take k) ≤ 100000) := (fun k _ => by
    have h1 : tot (rs.take k) ≤ tot rs := by
      unfold tot
      conv => rhs; rw [← List.take_append_drop k rs, List.map_append, List.sum_append]
      omega
    omega : ∀ k, k ≤ rs.length → tot (rs.take k) ≤ 100000)
  clear hlen h ht
  go_enter Try.func11, Try.ntmps11
  go_wp2_with fail
  go_loopw [1, 5] (fun q i wr => ∃ k : Nat, k ≤ n ∧ i = .int .i64 k ∧ q = .int .i64 (1 + (tot (rs.take k) : Nat)) ∧ Hid (∀ (e : Nat) (he : e < rs.length), wr.ownsRow base 3 1 (rs[e]).val (rs[e]).l.length (if e < k then marksI (1 + (tot (rs.take e) : Nat)) (rs[e]).l.length else ints (rs[e]).l)) ∧ wr.ownsRow base 22 1 (.slice A n c) n (rs.map Rw.val) ∧ Ch (fun j => ∃ r ∈ rs, j = r.g) w wr) (fun _ i _ => n - (intOf i).toNat)
  case atStart => exact ⟨0, Nat.zero_le _, rfl, rfl, (fun e he => by rw [if_neg (by omega)]; exact HN.out.inn _ (List.getElem_mem he)), HN.out.out, ch_refl9 w⟩
  case round =>
    obtain ⟨k, hk, rfl, rfl, HI, O, C⟩ := hrel
    by_cases hlt : k < n
    · have kx : k < rs.length := by rw [HLN.out]; exact hlt
      obtain ⟨ga, rfl, _, hga⟩ := own_at O (by omega)
      obtain ⟨b, off, hbe, _, hca⟩ := (Rd.of_own O).2 (by omega)
      simp only [Option.some.injEq, Addr.mk.injEq, and_true] at hbe
      obtain ⟨rfl, rfl⟩ := hbe
      have cz : wr.cell? ⟨ga, k, none⟩ = some (.slice (some ⟨(rs[k]).g, 0, none⟩) (rs[k]).l.length (rs[k]).cc) := by
        have h9 := hca k (rs[k]).val (by rw [List.getElem?_map, List.getElem?_eq_getElem kx]; rfl)
        rwa [Nat.zero_add] at h9
      have oe : wr.ownsRow base 3 1 (.slice (some ⟨(rs[k]).g, 0, none⟩) (rs[k]).l.length (rs[k]).cc) (rs[k]).l.length (ints (rs[k]).l) := by
        have h9 := HI.out k kx
        rw [if_neg (by omega)] at h9
        exact h9
      have ht1 := HTM.out k (by omega)
      have ht2 := HTM.out (k + 1) (by omega)
      have hnx := tot_next kx
      have HNX := Lib.hid hnx
      have hlb : (rs[k]).l.length ≤ 100000 := by omega
      have hp1 : IntKind.i64.wrap ((k : Int) + 1) = (k : Int) + 1 := IntWalk.i64_in _ (by omega)
      have hki : (k : Int) < (n : Int) := by omega
      have HOE := Lib.hid oe
      obtain ⟨r9, hr9⟩ : ∃ r9 : Rw, rs[k] = r9 := ⟨_, rfl⟩
      have HR9 := Lib.hid hr9
      rw [hr9] at cz HOE HNX hlb
      obtain ⟨tk, htk⟩ : ∃ tk, tot (rs.take k) = tk := ⟨_, rfl⟩
      have HTK := Lib.hid htk
      rw [htk] at ht1 HNX ⊢
      clear hca hnx oe hr9 htk ht2
      go_wp2_with fail
      refine (markIntS_any _ _ _ base _ _ _ HOE.out (by omega) (by omega) (by omega)).mono ?_
      rintro e w2 ⟨rfl, own2, gr2⟩
      have C2 : Ch (fun j => j = r9.g) wr w2 := Ch.of_grown gr2 (fun k h => by injection h with h; exact h.symm)
      have O2 := own_ch O C2 (fun q hq e => HN.out.off r9 (HR9.out ▸ List.getElem_mem kx) (by rw [hq, e]))
      have HI2 : Hid (∀ (e : Nat) (he : e < rs.length), w2.ownsRow base 3 1 (rs[e]).val (rs[e]).l.length (if e < k + 1 then marksI (1 + (tot (rs.take e) : Nat)) (rs[e]).l.length else ints (rs[e]).l)) := (fun e he => by
        by_cases hek : e = k
        · subst hek
          rw [if_pos (by omega), HTK.out, HR9.out]
          exact own2
        · have h9 := own_ch (HI.out e he) C2 (fun q hq e9 => by
            rw [Rw.own_g] at hq
            injection hq with hq
            have h8 : (rs.map Rw.g)[e]'(by simpa using he) = (rs.map Rw.g)[k]'(by simpa using kx) := by
              rw [List.getElem_map, List.getElem_map, HR9.out, hq]; exact e9
            exact hek (nodup_inj HN.out.nd _ _ h8))
          by_cases h7 : e < k
          · rw [if_pos h7] at h9
            rw [if_pos (by omega)]
            exact h9
          · rw [if_neg h7] at h9
            rw [if_neg (by omega)]
            exact h9 : ∀ (e : Nat) (he : e < rs.length), _)
      have C3 : Ch (fun j => ∃ r ∈ rs, j = r.g) w w2 := C.trans (ch_weak C2 (fun j hj => ⟨r9, HR9.out ▸ List.getElem_mem kx, hj⟩))
      clear O HI C C2 own2 gr2 HOE cz
      go_wp2_with fail
      go_roundw
      case rel => exact ⟨k + 1, by omega, by go_num, by rw [HNX.out]; congr 1; omega, HI2, O2, C3⟩
      case measure => simp [intOf]; omega
    · have hke : k = n := by omega
      subst hke
      have HALL : Hid (rs.take k = rs) := List.take_of_length_le (by rw [HLN.out]; exact Nat.le_refl _)
      have HM : Hid (Marked wr base A c k rs) := (⟨HLN.out, O, fun e he => by have h9 := HI.out e he; rw [if_pos (by rw [← HLN.out]; exact he)] at h9; exact h9⟩ : Marked wr base A c k rs)
      clear O HI
      go_wp2_with fail
      go_ret
      exact ⟨by rw [HALL.out]; rfl, HM.out, C⟩
set_option maxHeartbeats 2000000 in
theorem heldIntSS_b {A : Option Addr} {c n base : Nat} {rs : List Rw} {w : World} (h : Marked w base A c n rs) (hn : n ≤ 1000) (ht : tot rs ≤ 100000) :
    Calls Try.prog 12 #[.slice A n c, .int .i64 1] w fun e w' => e = .returned (.int .i64 (1 + (tot rs : Nat))) ∧ Below w.heap.size w w' := by
  have HLN := Lib.hid h.len
  have HTM : Hid (∀ k, k ≤ rs.length → tot (rs.take k) ≤ 100000) := (fun k _ => by
    have h1 : tot (rs.take k) ≤ tot rs := by
      unfold tot
      conv => rhs; rw [← List.take_append_drop k rs, List.map_append, List.sum_append]
      omega
    omega : ∀ k, k ≤ rs.length → tot (rs.take k) ≤ 100000)
  have HM := Lib.hid h
  clear ht h
  go_enter Try.func12, Try.ntmps12
  go_wp2_with fail
  go_loopw [1, 5] (fun q i wr => ∃ k : Nat, k ≤ n ∧ i = .int .i64 k ∧ q = .int .i64 (1 + (tot (rs.take k) : Nat)) ∧ Hid (Marked wr base A c n rs) ∧ Below w.heap.size w wr) (fun _ i _ => n - (intOf i).toNat)
  case atStart => exact ⟨0, Nat.zero_le _, rfl, rfl, HM, Below.refl _ _⟩
  clear HM
  case round =>
    obtain ⟨k, hk, rfl, rfl, HM, G⟩ := hrel
    by_cases hlt : k < n
    · have kx : k < rs.length := by rw [HLN.out]; exact hlt
      have O := HM.out.out
      obtain ⟨ga, rfl, _, hga⟩ := own_at O (by omega)
      obtain ⟨b, off, hbe, _, hca⟩ := (Rd.of_own O).2 (by omega)
      simp only [Option.some.injEq, Addr.mk.injEq, and_true] at hbe
      obtain ⟨rfl, rfl⟩ := hbe
      have cz : wr.cell? ⟨ga, k, none⟩ = some (.slice (some ⟨(rs[k]).g, 0, none⟩) (rs[k]).l.length (rs[k]).cc) := by
        have h9 := hca k (rs[k]).val (by rw [List.getElem?_map, List.getElem?_eq_getElem kx]; rfl)
        rwa [Nat.zero_add] at h9
      have oe := HM.out.inn k kx
      have ht1 := HTM.out k (by omega)
      have ht2 := HTM.out (k + 1) (by omega)
      have hnx := tot_next kx
      have HNX := Lib.hid hnx
      have hlb : (rs[k]).l.length ≤ 100000 := by omega
      have hp1 : IntKind.i64.wrap ((k : Int) + 1) = (k : Int) + 1 := IntWalk.i64_in _ (by omega)
      have hki : (k : Int) < (n : Int) := by omega
      have HOE := Lib.hid oe
      generalize rs[k] = r9 at *
      obtain ⟨tk, htk⟩ : ∃ tk, tot (rs.take k) = tk := ⟨_, rfl⟩
      rw [htk] at ht1 HNX HOE ⊢
      clear hca hnx oe htk ht2 O
      have hg9 : ¬ (1 + (tk : Int) + (r9.l.length : Int)) < 0 := by omega
      go_wp2_with fail
      refine (heldIntS_b (Rd.of_own HOE.out) (by omega) (by omega) (by omega)).mono ?_
      rintro e w2 ⟨rfl, hb⟩
      replace HM := Lib.hid (HM.out.on hb)
      replace G := G.trans (hb.mono G.size)
      clear hb HOE cz
      go_wp2_with fail
      go_roundw
      case rel => exact ⟨k + 1, by omega, by go_num, by rw [HNX.out]; congr 1; omega, HM, G⟩
      case measure => simp [intOf]; omega
    · have hke : k = n := by omega
      subst hke
      have HALL : Hid (rs.take k = rs) := List.take_of_length_le (by rw [HLN.out]; exact Nat.le_refl _)
      go_wp2_with fail
      go_ret
      exact ⟨by rw [HALL.out]; rfl, G⟩
end Go.Proofs.Ytdjdjceemfaigaa
