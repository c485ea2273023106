/- The reference's draws of lists of features, and of words. -/
import Derived.Test.YtmmpcchjalgokaaDoorDrf
import Derived.Test.YtmmpcchjalgokaaDoorCux
import Derived.Test.YtmmpcchjalgokaaDoorFts
namespace Go.Proofs.YtmmpcchjalgokaaDoor
set_option linter.unusedVariables false
set_option linter.unusedSimpArgs false
open Go.RowKit
theorem ft_one (f : Ft) : ∀ u ∈ f.cells, u.oneCell' = true := by
  intro u hu
  simp only [Ft.cells, List.mem_cons, List.not_mem_nil, or_false] at hu
  rcases hu with rfl | rfl | rfl | rfl | rfl <;> rfl
theorem fts_snoc (l : List Ft) (f : Ft) : fts l ++ f.cells = fts (l ++ [f]) := by simp [fts]
theorem sml_snoc {l : List Ft} {f : Ft} (h : ∀ x ∈ l, Sml x) (hf : Sml f) : ∀ x ∈ l ++ [f], Sml x := by
  intro x hx
  rcases List.mem_append.1 hx with h1 | h1
  · exact h x h1
  · rw [List.mem_singleton.1 h1]; exact hf
def lenV : Value → Nat
  | .slice _ n _ => n
  | _ => 0
/-- A list of features in a row of the call's own. -/
def FtsAt (w : World) (base : Nat) (A : Option Addr) (cp : Nat) (l : List Ft) : Prop := l.length ≤ cp ∧ l.length ≤ 30 ∧ (∀ f ∈ l, Sml f) ∧ w.ownsRow base 23 5 (.slice A l.length cp) l.length (fts l)
theorem FtsAt.ch {S : Nat → Prop} {w w' : World} {base cp : Nat} {A : Option Addr} {l : List Ft} (h : FtsAt w base A cp l) (hc : Ch S w w') (hS : ∀ j, S j → j < base) : FtsAt w' base A cp l :=
  ⟨h.1, h.2.1, h.2.2.1, own_ch h.2.2.2 hc (fun k hk e => by have := (h.2.2.2.lt k hk).1; have := hS k e; omega)⟩
theorem FtsAt.le {w : World} {base base' cp : Nat} {A : Option Addr} {l : List Ft} (h : FtsAt w base A cp l) (hb : base' ≤ base) : FtsAt w base' A cp l := ⟨h.1, h.2.1, h.2.2.1, own_le h.2.2.2 hb⟩
theorem FtsAt.on {w w' : World} {base cp : Nat} {A : Option Addr} {l : List Ft} (h : FtsAt w base A cp l) (hb : Below w.heap.size w w') : FtsAt w' base A cp l := ⟨h.1, h.2.1, h.2.2.1, own_below h.2.2.2 hb⟩
/-- One more feature is put behind: the cursor, the row and what was there. -/
theorem fts_push {w0 w w7 : World} {b g : Nat} {k : Int} {A A7 : Option Addr} {c c7 : Nat} {l : List Ft} {f : Ft} (hl30 : l.length ≤ 29) (hs : ∀ x ∈ l, Sml x) (hf : Sml f) (hg : g < w0.heap.size)
    (O : w.ownsRow w0.heap.size 23 5 (.slice A l.length c) l.length (fts l)) (K : Cur w b g k) (C : Ch (fun j => j = g) w0 w)
    (h7 : l.length + 1 ≤ c7) (own7 : w7.ownsRow w0.heap.size 23 5 (.slice A7 (l.length + 1) c7) (l.length + 1) (fts l ++ f.cells)) (grow7 : w.grownBy w7 (Value.ownBlock (.slice A l.length c))) :
    FtsAt w7 w0.heap.size A7 c7 (l ++ [f]) ∧ Cur w7 b g k ∧ Ch (fun j => j = g) w0 w7 := by
  have hlt := O.lt
  have hc : Ch (fun j => Value.ownBlock (.slice A l.length c) = some j) w w7 := Ch.of_grown grow7 (fun _ h => h)
  refine ⟨⟨?_, ?_, sml_snoc hs hf, ?_⟩, K.ch hc (fun j hj => by have := (hlt j hj).1; omega), ch_newF C hc (fun j hj => by left; exact (hlt j hj).1)⟩
  · rw [List.length_append]; exact h7
  · rw [List.length_append, List.length_singleton]; omega
  · rw [List.length_append, List.length_singleton, ← fts_snoc]; exact own7
set_option maxRecDepth 100000 in
set_option maxHeartbeats 4000000 in
theorem features_any {b g : Nat} {k : Int} {w : World} (K : Cur w b g k) (hk : k ≤ 400000) :
    Calls Tryd.prog 71 #[.pointer (some ⟨g, 0, none⟩)] w fun e w' => ∃ A cp l, e = .returned (.slice A (List.length l) cp) ∧ FtsAt w' w.heap.size A cp l ∧ Cur w' b g (k + 1000) ∧ Ch (fun j => j = g) w w' := by
  have hl := K.lt.1
  obtain ⟨i0, hi0, hz0, hz1, hz2⟩ := info_parts ft_info
  go_enter Tryd.func71, Tryd.ntmps71
  go_wp2_with fail
  refine (pick_any (K.alloc _) (by omega) (by omega) (by omega)).mono ?_
  rintro e w1 ⟨x, rfl, hx0, hx1, K1, hc1⟩
  have O1 : (w.alloc (.cells #[] 23)).ownsRow w.heap.size 23 5 (.slice (some ⟨w.heap.size, 0, none⟩) 0 0) 0 (fts []) := World.ownsRow_lit (e := 23) (size := 5) w #[] 0 (Nat.le_refl _) (by simp) rfl
  replace O1 := own_ch O1 hc1 (fun k hk h => by have := (O1.lt k hk).1; subst h; omega)
  have HC1 := (ch_alloc (ch_refl (S := fun j => j = g) w) (.cells #[] 23)).trans hc1
  obtain ⟨x9, hx9⟩ : ∃ x9 : Nat, x = x9 := ⟨x.toNat, by omega⟩
  subst hx9
  have hx6 : x9 ≤ 6 := by omega
  clear hc1 hx0 hx1 K
  go_wp2_with fail
  go_loopw [3, 4] (fun o i wr => ∃ (A : Option Addr) (cp : Nat) (l : List Ft) (n : Nat) (kk : Int), o = .slice A l.length cp ∧ i = .int .i64 n ∧ l.length + n ≤ 6 ∧ kk + 60 * n ≤ k + 2 + 360 ∧ Hid (FtsAt wr w.heap.size A cp l) ∧ Cur wr b g kk ∧ Ch (fun j => j = g) w wr) (fun _ i _ => (intOf i).toNat)
  case atStart => exact ⟨_, 0, [], x9, k + 2, rfl, rfl, by simp; omega, by omega, ⟨by simp, by simp, (fun f h => by cases h), O1⟩, K1, HC1⟩
  clear O1 HC1 K1
  case round =>
    obtain ⟨A, cp, l, n, kk, rfl, rfl, hln, hkk, HF, K, HC⟩ := hrel
    generalize hll : l.length = ll at *
    have HLL := Lib.hid hll
    clear hll
    by_cases hn0 : 0 < n
    · have hn0i : (0 : Int) < (n : Int) := by omega
      have hp3 : IntKind.i64.wrap ((n : Int) - 1) = (n : Int) - 1 := IntWalk.i64_in _ (by omega)
      have hnn : (n : Int) - 1 = ((n - 1 : Nat) : Int) := by omega
      go_wp2_with fail
      refine (feature_any K (by omega)).mono ?_
      rintro e w2 ⟨f, hf, rfl, K2, hc2⟩
      have hlg := K.lt.1
      have FA := HF.out.ch hc2 (fun j h => by have := HC.size; omega)
      replace HC := HC.trans hc2
      clear hc2 K HF
      have OWX := (FA.on (Below.alloc (Below.refl _ _) (Nat.le_refl _) (.cells #[.int .i64 f.code, .string f.which, .string f.what, .string f.look, .string f.side] 23)))
      have OW := OWX.2.2.2
      rw [HLL.out] at OW
      have HV := Lib.hid ((Blk.new w2 23 f.cells).rd (size := 5) (n := 1) rfl)
      have K5 := Lib.hid (K2.alloc (.cells #[.int .i64 f.code, .string f.which, .string f.what, .string f.look, .string f.side] 23))
      have H5 := Lib.hid (ch_alloc HC (.cells #[.int .i64 f.code, .string f.which, .string f.what, .string f.look, .string f.side] 23))
      have hsz := HC.size
      have HSM := Lib.hid FA.2.2.1
      have HFF := Lib.hid hf
      clear FA OWX HC K2 hf
      go_wp2_with (at_builtin; refine wpList_append_rd rfl _ _ 30 rfl w.heap.size 23 i0 (.agg #[.int .i64 0, .string ByteArray.empty, .string ByteArray.empty, .string ByteArray.empty, .string ByteArray.empty]) 5 72 Tryd.underlying30 hi0 hz0 hz1 hz2 rfl (by decide) _ _ _ rfl OW _ _ _ _ _ rfl HV.out (ft_one f) ?c1 ?d1 ?e1 ?_)
      case c1 => simp only [maxLen]; omega
      case d1 => omega
      case e1 => simp; omega
      intro A7 c7 w7 h7 own7 grow7 at7
      have F7 : Hid (FtsAt w7 w.heap.size A7 c7 (l ++ [f]) ∧ Cur w7 b g (kk + 60) ∧ Ch (fun j => j = g) w w7) := by
        have e9 := HLL.out
        subst e9
        exact fts_push (by omega) HSM.out HFF.out hl OW K5.out H5.out h7 own7 grow7
      clear own7 grow7 at7 OW K5 H5 HV
      go_wp2_with fail
      go_roundw
      case rel => exact ⟨A7, c7, l ++ [f], n - 1, kk + 60, (by rw [List.length_append, List.length_singleton, HLL.out]), (by rw [← hnn]), (by rw [List.length_append, List.length_singleton, HLL.out]; omega), (by omega), F7.out.1, F7.out.2.1, F7.out.2.2⟩
      case measure => simp [intOf]; omega
    · have hn00 : n = 0 := by omega
      subst hn00
      go_wp2_with fail
      refine (one_any K (by omega) (by omega) (by omega)).mono ?_
      rintro e w2 ⟨q, rfl, K2, hc2⟩
      have FA := HF.out.ch hc2 (fun j h => by have := HC.size; omega)
      replace HC := HC.trans hc2
      have HFA := Lib.hid FA
      clear hc2 K HF FA
      cases q
      · go_wp2_with fail
        go_ret
        exact ⟨A, cp, l, by rw [HLL.out]; rfl, HFA.out, K2.more (by omega), HC⟩
      · have HLE : ll ≤ 6 := by omega
        go_wp2_with fail
        go_loopw [3] (fun o wr => ∃ (A : Option Addr) (cp : Nat) (l : List Ft) (kk : Int), o = .slice A l.length cp ∧ l.length ≤ 22 ∧ kk + 2 * (22 - l.length) ≤ k + 500 ∧ Hid (FtsAt wr w.heap.size A cp l) ∧ Cur wr b g kk ∧ Ch (fun j => j = g) w wr) (fun o _ => 22 - (lenV o))
        case atStart => exact ⟨A, cp, l, _, by rw [HLL.out], by rw [HLL.out]; omega, by rw [HLL.out]; omega, HFA, K2, HC⟩
        clear HFA K2 HC
        case round =>
          obtain ⟨A, cp, l, kk, rfl, hl22, hkk, HF, K, HC⟩ := hrel
          generalize hll : l.length = l9 at *
          have HLL := Lib.hid hll
          clear hll
          go_wp2_with fail
          refine (pick_any K (by omega) (by omega) (by omega)).mono ?_
          rintro e w3 ⟨y, rfl, hy0, hy1, K2, hc2⟩
          have hlg := K.lt.1
          have FA := HF.out.ch hc2 (fun j h => by have := HC.size; omega)
          replace HC := HC.trans hc2
          have hpy : IntKind.i64.wrap (20 + y) = 20 + y := IntWalk.i64_in _ (by omega)
          clear hc2 K HF
          by_cases hlt : (l9 : Int) < 20 + y
          · have hf : Sml ⟨40 + (l9 : Int), ⟨#[]⟩, ⟨#[112, 105, 116]⟩, ⟨#[]⟩, ⟨#[]⟩⟩ := by
              unfold Sml
              dsimp only
              exact ⟨by omega, by decide, by decide, by decide, by decide⟩
            have hp4 : IntKind.i64.wrap (40 + (l9 : Int)) = 40 + (l9 : Int) := IntWalk.i64_in _ (by omega)
            obtain ⟨f, hff⟩ : ∃ f : Ft, f = ⟨40 + (l9 : Int), ⟨#[]⟩, ⟨#[112, 105, 116]⟩, ⟨#[]⟩, ⟨#[]⟩⟩ := ⟨_, rfl⟩
            rw [← hff] at hf
            have HF9 := Lib.hid hff
            clear hff
            have OWX := (FA.on (Below.alloc (Below.refl _ _) (Nat.le_refl _) (.cells #[.int .i64 (40 + (l9 : Int)), .string ⟨#[]⟩, .string ⟨#[112, 105, 116]⟩, .string ⟨#[]⟩, .string ⟨#[]⟩] 23)))
            have OW := OWX.2.2.2
            rw [HLL.out] at OW
            have HV : Hid (Rd (w3.alloc (.cells #[.int .i64 (40 + (l9 : Int)), .string ⟨#[]⟩, .string ⟨#[112, 105, 116]⟩, .string ⟨#[]⟩, .string ⟨#[]⟩] 23)) (w3.alloc (.cells #[.int .i64 (40 + (l9 : Int)), .string ⟨#[]⟩, .string ⟨#[112, 105, 116]⟩, .string ⟨#[]⟩, .string ⟨#[]⟩] 23)).heap.size 5 (some ⟨w3.heap.size, 0, none⟩) 1 f.cells) := by
              show Rd _ _ _ _ _ _
              rw [HF9.out]
              exact (Blk.new w3 23 [.int .i64 (40 + (l9 : Int)), .string ⟨#[]⟩, .string ⟨#[112, 105, 116]⟩, .string ⟨#[]⟩, .string ⟨#[]⟩]).rd (size := 5) (n := 1) rfl
            have K5 := Lib.hid (K2.alloc (.cells #[.int .i64 (40 + (l9 : Int)), .string ⟨#[]⟩, .string ⟨#[112, 105, 116]⟩, .string ⟨#[]⟩, .string ⟨#[]⟩] 23))
            have H5 := Lib.hid (ch_alloc HC (.cells #[.int .i64 (40 + (l9 : Int)), .string ⟨#[]⟩, .string ⟨#[112, 105, 116]⟩, .string ⟨#[]⟩, .string ⟨#[]⟩] 23))
            have hsz := HC.size
            have HSM := Lib.hid FA.2.2.1
            have HFF := Lib.hid hf
            clear FA OWX HC K2 hf
            go_wp2_with (at_builtin; refine wpList_append_rd rfl _ _ 30 rfl w.heap.size 23 i0 (.agg #[.int .i64 0, .string ByteArray.empty, .string ByteArray.empty, .string ByteArray.empty, .string ByteArray.empty]) 5 72 Tryd.underlying30 hi0 hz0 hz1 hz2 rfl (by decide) _ _ _ rfl OW _ _ _ _ _ rfl HV.out (ft_one f) ?c1 ?d1 ?e1 ?_)
            case c1 => simp only [maxLen]; omega
            case d1 => omega
            case e1 => simp; omega
            intro A7 c7 w7 h7 own7 grow7 at7
            have F7 : Hid (FtsAt w7 w.heap.size A7 c7 (l ++ [f]) ∧ Cur w7 b g (kk + 2) ∧ Ch (fun j => j = g) w w7) := by
              have e9 := HLL.out
              subst e9
              exact fts_push (by omega) HSM.out HFF.out hl OW K5.out H5.out h7 own7 grow7
            clear own7 grow7 at7 OW K5 H5 HV
            go_wp2_with fail
            go_roundw
            case rel => exact ⟨A7, c7, l ++ [f], kk + 2, (by rw [List.length_append, List.length_singleton, HLL.out]), (by rw [List.length_append, List.length_singleton, HLL.out]; omega), (by rw [List.length_append, List.length_singleton, HLL.out]; omega), F7.out.1, F7.out.2.1, F7.out.2.2⟩
            case measure => simp [lenV]; omega
          · have HFA := Lib.hid FA
            clear FA
            go_wp2_with fail
            go_ret
            exact ⟨A, cp, l, by rw [HLL.out]; rfl, HFA.out, K2.more (by omega), HC⟩
theorem DrawSheetText_any {C : Option Addr} {n c : Nat} {l : List Int} {w : World} (hR : Rd w w.heap.size 1 C n (bys l)) (hl : ∀ x ∈ l, 0 ≤ x ∧ x ≤ 255) (hn : n ≤ 65536) :
    Calls Tryd.prog 13 #[.slice C n c] w fun e w' => ∃ A cp l, e = .returned (.slice A (List.length l) cp) ∧ FtsAt w' w.heap.size A cp l ∧ Below w.heap.size w w' := by
  have K := cur_new (c := c) hR hl hn
  clear hR hl
  go_enter Tryd.func13, Tryd.ntmps13
  go_wp2_with fail
  refine (features_any K (by omega)).mono ?_
  rintro e w1 ⟨A, cp, l, rfl, FA, K1, hc⟩
  have HB := below_new hc
  have FB := Lib.hid (FA.le (base' := w.heap.size) (by simp))
  clear FA hc K K1
  go_wp2_with fail
  go_ret
  exact ⟨A, cp, l, rfl, FB.out, HB⟩
def fmL : List ByteArray := [bsn [104, 105, 108, 108], bsn [115, 112, 117, 114], bsn [112, 105, 116], bsn [99, 108, 105, 102, 102], bsn [112, 111, 110, 100], bsn [119, 97, 108, 108], bsn [116, 114, 101, 101], bsn []]
theorem fmL_sz : ∀ s ∈ fmL, s.size ≤ 20 := by decide
theorem DrawFamilyOf_any {C : Option Addr} {n c : Nat} {l : List Int} {w : World} (hR : Rd w w.heap.size 1 C n (bys l)) (hl : ∀ x ∈ l, 0 ≤ x ∧ x ≤ 255) (hn : n ≤ 65536) :
    Calls Tryd.prog 77 #[.slice C n c] w fun e w' => ∃ s : ByteArray, s.size ≤ 20 ∧ e = .returned (.string s) ∧ Below w.heap.size w w' := by
  have K := cur_new (c := c) hR hl hn
  have G : Below w.heap.size w (w.alloc (.cells #[.slice C n c, .int .i64 0, .int .u64 0] 78)) := (by repeat (first | exact Below.refl _ _ | refine below_drewN ?_ _ | refine Below.drew ?_ | refine Below.alloc ?_ (by first | omega | (simp; done) | (simp; omega)) _ | refine Below.setCell ?_ (by first | omega | (simp; done) | (simp; omega)) _))
  clear hR hl
  go_enter Tryd.func77, Tryd.ntmps77
  go_wp2_with fail
  refine (of_any (xs := fmL) (n := 8) (K.alloc _) (by omega) (two_new1 w _ _ _) (by omega) rfl (by omega) (by omega)).mono ?_
  rintro e w1 ⟨s, hs, rfl, K1, hc1⟩
  have hsz := fmL_sz s hs
  have G1 := Below.ch (G.alloc G.size _) hc1 (by simp; omega) (fun k h => by omega)
  go_wp2_with fail
  go_ret
  exact ⟨s, hsz, rfl, G1⟩
theorem DrawSidesFor_any {C : Option Addr} {n c : Nat} {l : List Int} {w : World} (hR : Rd w w.heap.size 1 C n (bys l)) (hl : ∀ x ∈ l, 0 ≤ x ∧ x ≤ 255) (hn : n ≤ 65536) :
    Calls Tryd.prog 20 #[.slice C n c] w fun e w' => ∃ s : ByteArray, s.size ≤ 20 ∧ e = .returned (.string s) ∧ Below w.heap.size w w' := by
  go_enter Tryd.func20, Tryd.ntmps20
  go_wp2_with fail
  refine (DrawFamilyOf_any hR hl hn).mono ?_
  rintro e w1 ⟨s, hs, rfl, hb⟩
  go_wp2_with fail
  go_ret
  exact ⟨s, hs, rfl, hb⟩
end Go.Proofs.YtmmpcchjalgokaaDoor
