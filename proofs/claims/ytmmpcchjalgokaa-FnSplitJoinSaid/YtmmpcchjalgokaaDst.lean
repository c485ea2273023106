/- The reference's draws of strings. -/
import Derived.Test.YtmmpcchjalgokaaCux
import Derived.Test.YtmmpcchjalgokaaApp
import Derived.Test.YtmmpcchjalgokaaSstr
import Derived.Laws.BytesArg
import Derived.Deep.OwnRows
namespace Go.Proofs.Ytmmpcchjalgokaa
set_option linter.unusedVariables false
set_option linter.unusedSimpArgs false
open Go.RowKit
def anyL : List ByteArray := [bsn [], bsn [97], bsn [97, 44, 98], bsn [115, 111, 109, 101, 32, 119, 111, 114, 100, 115], bsn [120, 35, 121], bsn [45, 49, 50], bsn [0, 255], bsn [44, 44], bsn [48]]
theorem anyL_sz : ∀ s ∈ anyL, s.size ≤ 20 := by decide
theorem ssz_snoc (l : List ByteArray) (s : ByteArray) : ssz (l ++ [s]) = ssz l + s.size := by simp [ssz]
theorem strs_snoc (l : List ByteArray) (s : ByteArray) : strs l ++ [Value.string s] = strs (l ++ [s]) := by simp [strs]
set_option maxHeartbeats 1000000 in
theorem any1_any {b g : Nat} {k : Int} {w : World} (K : Cur w b g k) (hk : k ≤ 800000) :
    Calls Try.prog 23 #[.pointer (some ⟨g, 0, none⟩)] w fun e w' => ∃ s : ByteArray, s.size ≤ 20 ∧ e = .returned (.string s) ∧ Cur w' b g (k + 2) ∧ Ch (fun j => j = g) w w' := by
  have hg := K.lt.1
  go_enter Try.func23, Try.ntmps23
  go_wp2_with fail
  refine (of_any (xs := anyL) (n := 9) (K.alloc _) (by omega) (Blk.new w _ _) (by omega) rfl (by omega) (by omega)).mono ?_
  rintro e w1 ⟨s, hs, rfl, K1, hc1⟩
  have hsz := anyL_sz s hs
  go_wp2_with fail
  go_ret
  exact ⟨s, hsz, rfl, K1, (ch_alloc (ch_refl w) _).trans hc1⟩
def sepL : List ByteArray := [bsn [44], bsn [44], bsn [32], bsn [], bsn [44, 44]]
theorem sepL_sz : ∀ s ∈ sepL, s.size ≤ 2 := by decide
set_option maxHeartbeats 1000000 in
theorem DrawSplitString_any {C : Option Addr} {n c : Nat} {l : List Int} {w : World} (hR : Rd w w.heap.size 1 C n (bys l)) (hl : ∀ x ∈ l, 0 ≤ x ∧ x ≤ 255) (hn : n ≤ 65536) :
    Calls Try.prog 6 #[.slice C n c] w fun e w' => ∃ s sep : ByteArray, s.size ≤ 20 ∧ sep.size ≤ 2 ∧ e = .returned (.tuple #[.string s, .string sep]) ∧ Below w.heap.size w w' := by
  have K := cur_new (c := c) hR hl hn
  clear hR hl
  go_enter Try.func6, Try.ntmps6
  go_wp2_with fail
  refine (any1_any K (by omega)).mono ?_
  rintro e w1 ⟨s, hs, rfl, K1, hc1⟩
  have G := below_new hc1
  have hg1 := K1.lt.1
  clear K hc1
  go_wp2_with fail
  refine (of_any (xs := sepL) (n := 5) (K1.alloc _) (by omega) (Blk.new w1 _ _) (by omega) rfl (by omega) (by omega)).mono ?_
  rintro e w2 ⟨p, hp, rfl, K2, hc2⟩
  have hp2 := sepL_sz p hp
  have G2 := Below.ch (G.alloc G.size _) hc2 (by have := G.size; simp; omega) (fun k h => by omega)
  clear hp
  go_wp2_with fail
  go_ret2
  exact ⟨s, p, hs, hp2, rfl, G2⟩
set_option maxHeartbeats 1000000 in
theorem DrawLessString_any {C : Option Addr} {n c : Nat} {l : List Int} {w : World} (hR : Rd w w.heap.size 1 C n (bys l)) (hl : ∀ x ∈ l, 0 ≤ x ∧ x ≤ 255) (hn : n ≤ 65536) :
    Calls Try.prog 11 #[.slice C n c] w fun e w' => ∃ a b : ByteArray, a.size ≤ 20 ∧ b.size ≤ 20 ∧ e = .returned (.tuple #[.string a, .string b]) ∧ Below w.heap.size w w' := by
  have K := cur_new (c := c) hR hl hn
  clear hR hl
  go_enter Try.func11, Try.ntmps11
  go_wp2_with fail
  refine (any1_any K (by omega)).mono ?_
  rintro e w1 ⟨s, hs, rfl, K1, hc1⟩
  have G := below_new hc1
  clear K hc1
  go_wp2_with fail
  refine (any1_any K1 (by omega)).mono ?_
  rintro e w2 ⟨p, hp2, rfl, K2, hc2⟩
  have G2 := Below.ch G hc2 G.size (fun k h => by omega)
  go_wp2_with fail
  go_ret2
  exact ⟨s, p, hs, hp2, rfl, G2⟩
theorem byte_info : (Try.prog.info? 5).map (fun i => (i.zero, i.size, i.bytes)) = some (some (.int .u8 0), 1, 1) := by kernel_rfl
theorem made_string {n : Nat} (hn : n ≤ 5000) (w : World) :
    (Instr.makeSlice 22 (.int .i64 (n : Int)) (.int .i64 (n : Int))).run Try.prog w = .ok (.slice (some ⟨w.heap.size, 0, none⟩) n n) (w.alloc (.cells (madeCells #[.int .u8 0] n) 5)) ∧
    (convert 22 9 (.slice (some ⟨w.heap.size, 0, none⟩) n n)).run Try.prog (w.alloc (.cells (madeCells #[.int .u8 0] n) 5)) = .ok (.string (strOfNums (List.replicate n 0))) (w.alloc (.cells (madeCells #[.int .u8 0] n) 5)) := by
  constructor
  · exact run_make_row' (P := Try.prog) 22 5 (.int .u8 0) 1 (by kernel_rfl) byte_info rfl .i64 .i64 n (by omega) (by omega) w
  · refine run_convert_bytes_arg _ 22 5 (by kernel_rfl) (by kernel_rfl) w.heap.size 0 n n (List.replicate n 0) (by simp) ?_ 9 (by kernel_rfl)
    intro i hi
    rw [World.cell?_alloc_mark]
    simp [madeCells, List.getD, hi, Nat.mod_one]
theorem made_size (n : Nat) : (strOfNums (List.replicate n 0)).size = n := by rw [strOfNums_size]; simp
def marL : List ByteArray := [bsn [44], bsn [59], bsn [59], bsn [], bsn [97, 98]]
theorem marL_sz : ∀ s ∈ marL, s.size ≤ 2 := by decide
set_option maxRecDepth 100000 in
set_option maxHeartbeats 4000000 in
theorem DrawJoinStrings_any {C : Option Addr} {n c : Nat} {l : List Int} {w : World} (hR : Rd w w.heap.size 1 C n (bys l)) (hl : ∀ x ∈ l, 0 ≤ x ∧ x ≤ 255) (hn : n ≤ 65536) :
    Calls Try.prog 8 #[.slice C n c] w fun e w' => ∃ A cp k mark, List.length k ≤ cp ∧ k.length ≤ 10 ∧ ssz k ≤ 10000 ∧ ByteArray.size mark ≤ 2 ∧ e = .returned (.tuple #[.slice A (List.length k) cp, .string mark]) ∧ w'.ownsRow w.heap.size 9 1 (.slice A k.length cp) k.length (strs k) ∧ Below w.heap.size w w' := by
  have K := cur_new (c := c) hR hl hn
  have G : Below w.heap.size w ((w.alloc (.cells #[.slice C n c, .int .i64 0, .int .u64 0] 51)).alloc (.cells #[] 9)) := (by repeat (first | exact Below.refl _ _ | refine below_drewN ?_ _ | refine Below.drew ?_ | refine Below.alloc ?_ (by first | omega | (simp; done) | (simp; omega)) _ | refine Below.setCell ?_ (by first | omega | (simp; done) | (simp; omega)) _))
  have O := World.ownsRow_lit (base := w.heap.size + 1) (e := 9) (size := 1) (w.alloc (.cells #[.slice C n c, .int .i64 0, .int .u64 0] 51)) #[] 0 (by simp) (by simp) rfl
  clear hR hl
  obtain ⟨i0, hi0, hz0, hz1, hz2⟩ := info_parts string_info
  go_enter Try.func8, Try.ntmps8
  go_wp2_with fail
  refine (pick_any (K.alloc _) (by omega) (by omega) (by omega)).mono ?_
  rintro e w1 ⟨x, rfl, hx0, hx1, K1, hc1⟩
  obtain ⟨x9, rfl⟩ := Int.eq_ofNat_of_zero_le hx0
  have hx4 : x9 ≤ 4 := by omega
  replace O := own_ch O hc1 (fun k hk h => by have := (O.lt k hk).1; subst h; omega)
  replace G := Below.ch G hc1 G.size (fun k h => by omega)
  clear hc1 K hx0 hx1
  go_wp2_with fail
  go_loopw [5, 7] (fun v i wr => ∃ (A : Option Addr) (cp j : Nat) (k : List ByteArray), v = .slice A k.length cp ∧ i = .int .i64 j ∧ j ≤ x9 ∧ k.length ≤ j ∧ Hid (ssz k ≤ 20 * j) ∧ k.length ≤ cp ∧ wr.ownsRow (w.heap.size + 1) 9 1 (.slice A k.length cp) k.length (strs k) ∧ Cur wr w.heap.size w.heap.size (10 + 2 * j) ∧ Below w.heap.size w wr) (fun _ i _ => x9 - (intOf i).toNat)
  case atStart =>
    rw [World.size_alloc] at O
    exact ⟨_, 0, 0, [], rfl, rfl, Nat.zero_le _, Nat.le_refl _, Nat.le_refl _, Nat.le_refl _, O, K1.more (by omega), G⟩
  clear O K1 G
  case round =>
    obtain ⟨A, cp, j, k, rfl, rfl, hj, hkj, HZ, hcp, O, K, G⟩ := hrel
    by_cases hlt : j < x9
    · have hp1 : IntKind.i64.wrap ((j : Int) + 1) = (j : Int) + 1 := IntWalk.i64_in _ (by omega)
      go_wp2_with fail
      refine (any1_any K (by omega)).mono ?_
      rintro e w2 ⟨s, hs, rfl, K2, hc2⟩
      replace O := own_ch O hc2 (fun k hk h => by have := (O.lt k hk).1; subst h; omega)
      replace G := Below.ch G hc2 G.size (fun k h => by omega)
      clear hc2 K
      have OW := own_below O (Below.alloc (Below.refl _ _) (Nat.le_refl _) (.cells #[.string s] 9))
      have HV := Lib.hid ((Blk.new w2 9 (strs [s])).rd (size := 1) (n := 1) rfl)
      have K5 := Lib.hid (K2.alloc (.cells #[.string s] 9))
      have G5 := Lib.hid (G.alloc G.size (.cells #[.string s] 9))
      have hsz := G.size
      have hlk := K2.lt.1
      clear O K2 G
      go_wp2_with (at_builtin; refine wpList_append_rd rfl _ _ 26 rfl (w.heap.size + 1) 9 i0 (.string ByteArray.empty) 1 16 Try.underlying26 hi0 hz0 hz1 hz2 rfl (by decide) _ _ _ rfl OW _ _ _ _ _ rfl HV.out (strs_one _) ?c1 ?d1 ?e1 ?_)
      case c1 => simp only [maxLen]; omega
      case d1 => omega
      case e1 => simp; omega
      intro A7 c7 w7 h7 own7 grow7 at7
      have lt7 := OW.lt
      have K7 := Lib.hid (K5.out.ch (Ch.of_grown (S := fun j => Value.ownBlock (.slice A k.length cp) = some j) grow7 (fun _ h => h)) (fun j hj => by have := (lt7 j hj).1; omega))
      have G7 := Lib.hid (Below.ch G5.out (Ch.of_grown (S := fun j => Value.ownBlock (.slice A k.length cp) = some j) grow7 (fun _ h => h)) (by simp; omega) (fun j hj => by have := (lt7 j hj).1; omega))
      have O7 : Hid (w7.ownsRow (w.heap.size + 1) 9 1 (.slice A7 (k ++ [s]).length c7) (k ++ [s]).length (strs (k ++ [s]))) := by
        show World.ownsRow _ _ _ _ _ _ _
        rw [List.length_append, ← strs_snoc]
        exact own7
      have HZ7 : Hid (ssz (k ++ [s]) ≤ 20 * (j + 1)) := by
        show _ ≤ _
        rw [ssz_snoc]
        have := HZ.out
        omega
      clear own7 grow7 at7 lt7 OW K5 G5 HV
      go_wp2_with fail
      go_roundw
      case rel => exact ⟨A7, c7, j + 1, k ++ [s], by rw [List.length_append]; rfl, by go_num, by omega, by rw [List.length_append, List.length_singleton]; omega, HZ7, by rw [List.length_append]; exact h7, O7.out, K7.out.more (by omega), G7.out⟩
      case measure => simp [intOf]; omega
    · go_wp2_with fail
      refine (one_any K (by omega) (by omega) (by omega)).mono ?_
      rintro e w2 ⟨q, rfl, K2, hc2⟩
      replace O := own_ch O hc2 (fun k hk h => by have := (O.lt k hk).1; subst h; omega)
      replace G := Below.ch G hc2 G.size (fun k h => by omega)
      have hz := HZ.out
      clear hc2 K HZ
      cases q
      · go_wp2_with fail
        have hlk := K2.lt.1
        refine (of_any (xs := marL) (n := 5) (K2.alloc _) (by omega) (Blk.new w2 _ _) (by omega) rfl (by omega) (by omega)).mono ?_
        rintro e w9 ⟨mk9, hmk9, rfl, K9, hc9⟩
        have hm2 := marL_sz mk9 hmk9
        have O9 := own_ch (O.alloc (.cells #[.string (bsn [44]), .string (bsn [59]), .string (bsn [59]), .string (bsn []), .string (bsn [97, 98])] 9)) hc9 (fun k hk h => by have := (O.lt k hk).1; subst h; omega)
        have G9 := Below.ch (G.alloc G.size (.cells #[.string (bsn [44]), .string (bsn [59]), .string (bsn [59]), .string (bsn []), .string (bsn [97, 98])] 9)) hc9 (by have := G.size; simp; omega) (fun k h => by omega)
        clear hmk9 hc9
        go_wp2_with fail
        go_ret2
        exact ⟨A, cp, k, mk9, hcp, by omega, by omega, hm2, rfl, own_le O9 (by omega), G9⟩
      · go_wp2_with fail
        refine (pick_any K2 (by omega) (by omega) (by omega)).mono ?_
        rintro e w3 ⟨y, rfl, hy0, hy1, K3, hc3⟩
        obtain ⟨y9, rfl⟩ := Int.eq_ofNat_of_zero_le hy0
        have hy20 : y9 ≤ 20 := by omega
        have hyw : IntKind.i64.wrap (3990 + (y9 : Int)) = ((3990 + y9 : Nat) : Int) := by rw [IntWalk.i64_in _ (by omega)]; omega
        replace O := own_ch O hc3 (fun k hk h => by have := (O.lt k hk).1; subst h; omega)
        replace G := Below.ch G hc3 G.size (fun k h => by omega)
        obtain ⟨N9, hN⟩ : ∃ N9, 3990 + y9 = N9 := ⟨_, rfl⟩
        rw [hN] at hyw
        have hN5 : N9 ≤ 5000 := by omega
        obtain ⟨hmk, hcv⟩ := made_string hN5 w3
        have hss := made_size N9
        generalize strOfNums (List.replicate N9 0) = s at *
        obtain ⟨ob, hob⟩ : ∃ ob, Obj.cells (madeCells #[.int .u8 0] N9) 5 = ob := ⟨_, rfl⟩
        rw [hob] at hmk hcv
        clear hob hc3 K2 hy0 hy1
        have O4 := O.alloc ob
        have K4 := K3.alloc ob
        have G4 := G.alloc G.size ob
        obtain ⟨w4, hw4⟩ : ∃ w4, w3.alloc ob = w4 := ⟨_, rfl⟩
        rw [hw4] at hmk hcv O4 K4 G4
        clear hw4 O K3 G
        have OW := own_below O4 (Below.alloc (Below.refl _ _) (Nat.le_refl _) (.cells #[.string s] 9))
        have HV := Lib.hid ((Blk.new w4 9 (strs [s])).rd (size := 1) (n := 1) rfl)
        have K5 := Lib.hid (K4.alloc (.cells #[.string s] 9))
        have G5 := Lib.hid (G4.alloc G4.size (.cells #[.string s] 9))
        have hsz := G4.size
        have hlk := K4.lt.1
        clear O4 K4 G4
        go_wp2_with (at_builtin; refine wpList_append_rd rfl _ _ 26 rfl (w.heap.size + 1) 9 i0 (.string ByteArray.empty) 1 16 Try.underlying26 hi0 hz0 hz1 hz2 rfl (by decide) _ _ _ rfl OW _ _ _ _ _ rfl HV.out (strs_one _) ?c1 ?d1 ?e1 ?_)
        case c1 => simp only [maxLen]; omega
        case d1 => omega
        case e1 => simp; omega
        intro A7 c7 w7 h7 own7 grow7 at7
        have lt7 := OW.lt
        have K7 := Lib.hid (K5.out.ch (Ch.of_grown (S := fun j => Value.ownBlock (.slice A k.length cp) = some j) grow7 (fun _ h => h)) (fun j hj => by have := (lt7 j hj).1; omega))
        have G7 := Lib.hid (Below.ch G5.out (Ch.of_grown (S := fun j => Value.ownBlock (.slice A k.length cp) = some j) grow7 (fun _ h => h)) (by simp; omega) (fun j hj => by have := (lt7 j hj).1; omega))
        have O : w7.ownsRow (w.heap.size + 1) 9 1 (.slice A7 (k ++ [s]).length c7) (k ++ [s]).length (strs (k ++ [s])) := by
          rw [List.length_append, ← strs_snoc]
          exact own7
        have hz : ssz (k ++ [s]) ≤ 5000 := by
          rw [ssz_snoc]
          omega
        have hkl : (k ++ [s]).length ≤ 10 := by rw [List.length_append, List.length_singleton]; omega
        have hcp7 : (k ++ [s]).length ≤ c7 := by rw [List.length_append]; exact h7
        have e7 : k.length + 1 = (k ++ [s]).length := by rw [List.length_append]; rfl
        rw [e7]
        have K2 := K7.out
        have G := G7.out
        generalize k ++ [s] = k2 at *
        clear own7 grow7 at7 lt7 OW K5 G5 HV K7 G7
        go_wp2_with fail
        have hlk := K2.lt.1
        refine (of_any (xs := marL) (n := 5) (K2.alloc _) (by omega) (Blk.new w7 _ _) (by omega) rfl (by omega) (by omega)).mono ?_
        rintro e w9 ⟨mk9, hmk9, rfl, K9, hc9⟩
        have hm2 := marL_sz mk9 hmk9
        have O9 := own_ch (O.alloc (.cells #[.string (bsn [44]), .string (bsn [59]), .string (bsn [59]), .string (bsn []), .string (bsn [97, 98])] 9)) hc9 (fun k hk h => by have := (O.lt k hk).1; subst h; omega)
        have G9 := Below.ch (G.alloc G.size (.cells #[.string (bsn [44]), .string (bsn [59]), .string (bsn [59]), .string (bsn []), .string (bsn [97, 98])] 9)) hc9 (by have := G.size; simp; omega) (fun k h => by omega)
        clear hmk9 hc9
        go_wp2_with fail
        go_ret2
        exact ⟨A7, c7, k2, mk9, hcp7, by omega, by omega, hm2, rfl, own_le O9 (by omega), G9⟩
end Go.Proofs.Ytmmpcchjalgokaa
