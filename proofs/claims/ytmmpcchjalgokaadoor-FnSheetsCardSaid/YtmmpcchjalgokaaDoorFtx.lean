/- Contracts: a feature's text, the program's and the reference's; FeatureText, DoDescribe. -/
import Derived.Test.YtmmpcchjalgokaaDoorNum
import Derived.Test.YtmmpcchjalgokaaDoorIsF
import Derived.Test.YtmmpcchjalgokaaDoorOpenFeature
import Derived.Lib.Join
namespace Go.Proofs.YtmmpcchjalgokaaDoor
set_option linter.unusedVariables false
set_option linter.unusedSimpArgs false
open Go.RowKit
def bl1 : ByteArray := ⟨#[32]⟩
def sideW : ByteArray := ⟨#[115, 105, 100, 101]⟩
def wd3 (f : Ft) : List ByteArray := [f.which, f.look, f.what]
def wsK (f : Ft) (k : Nat) : List ByteArray := itoaB f.code :: ((wd3 f).take k).filter (fun x => !nonB x)
def wsF (f : Ft) : List ByteArray := wsK f 3 ++ (if nonB f.side = true then [] else [sideW, f.side])
/-- A feature's text without its code. -/
def t1 (f : Ft) : ByteArray := if nonB f.which = true then ⟨#[]⟩ else (⟨#[]⟩ : ByteArray) ++ (⟨#[32]⟩ : ByteArray) ++ f.which
def t2 (f : Ft) : ByteArray := if nonB f.look = true then t1 f else t1 f ++ (⟨#[32]⟩ : ByteArray) ++ f.look
def l3T (f : Ft) : ByteArray := if nonB f.side = true then t2 f ++ (⟨#[32]⟩ : ByteArray) ++ f.what else t2 f ++ (⟨#[32]⟩ : ByteArray) ++ f.what ++ (⟨#[32, 115, 105, 100, 101, 32]⟩ : ByteArray) ++ f.side
def ftB (f : Ft) : ByteArray := itoaB f.code ++ l3T f
theorem wsK_succ {f : Ft} {k : Nat} (hk : k < (wd3 f).length) : wsK f (k + 1) = wsK f k ++ (if nonB (wd3 f)[k] = true then [] else [(wd3 f)[k]]) := by
  unfold wsK
  rw [List.take_succ_eq_append_getElem hk, List.filter_append, List.cons_append]
  congr 2
  cases h : nonB (wd3 f)[k] <;> simp [h]
theorem nonB_iff {s : ByteArray} : nonB s = true ↔ s = ⟨#[]⟩ := by
  unfold nonB
  rw [Lib.toList_data]
  constructor
  · intro h
    apply ByteArray.ext
    have : s.data.toList = [] := by simpa using h
    apply Array.ext'
    simpa using this
  · intro h; subst h; rfl
theorem mk_size (l : Bs) : (mk l).size = l.length := by
  show l.toArray.size = _
  simp
theorem inB_size {ws : List Bs} {s : ByteArray} (h : inB ws s = true) {n : Nat} (hw : ∀ l ∈ ws, 1 ≤ l.length ∧ l.length ≤ n) : 1 ≤ s.size ∧ s.size ≤ n := by
  unfold inB at h
  rw [List.any_eq_true] at h
  obtain ⟨l, hl, he⟩ := h
  rw [beq_mk, decide_eq_true_eq] at he
  subst he
  rw [mk_size]
  exact hw l hl
theorem famI_word {s : ByteArray} (h : 0 ≤ famI s) : ∃ k, k < 5 ∧ inB (WL k) s = true := by
  unfold famI at h
  by_cases h0 : inB (WL 0) s = true
  · exact ⟨0, by decide, h0⟩
  · by_cases h1 : inB (WL 1) s = true
    · exact ⟨1, by decide, h1⟩
    · by_cases h2 : inB (WL 2) s = true
      · exact ⟨2, by decide, h2⟩
      · by_cases h3 : inB (WL 3) s = true
        · exact ⟨3, by decide, h3⟩
        · by_cases h4 : inB (WL 4) s = true
          · exact ⟨4, by decide, h4⟩
          · rw [if_neg h0, if_neg h1, if_neg h2, if_neg h3, if_neg h4] at h
            omega
theorem size0 {s : ByteArray} (h : nonB s = true) : s.size = 0 := by rw [nonB_iff.1 h]; rfl
theorem sidL_sz (f : Int) : ∀ l ∈ sidL f, 1 ≤ l.length ∧ l.length ≤ 20 := by
  unfold sidL
  intro l hl
  rw [List.mem_append] at hl
  rcases hl with hl | hl
  · revert l; decide
  · split at hl
    · revert l; decide
    · split at hl
      · revert l; decide
      · split at hl
        · revert l; decide
        · cases hl
theorem ft_bd {f : Ft} (h : okFt f = true) : (31 ≤ f.code ∧ f.code ≤ 99) ∧ f.which.size ≤ 20 ∧ f.look.size ≤ 20 ∧ (1 ≤ f.what.size ∧ f.what.size ≤ 20) ∧ f.side.size ≤ 20 := by
  unfold okFt at h
  rw [Bool.and_eq_true] at h
  obtain ⟨hA, hS⟩ := h
  obtain ⟨h1, h2, h3, h4⟩ := bigS hA
  have hc := insideB_iff.1 h1
  obtain ⟨k, hk, hw⟩ := famI_word h2
  have hwt := inB_size hw (n := 20) (by rcases (show k = 0 ∨ k = 1 ∨ k = 2 ∨ k = 3 ∨ k = 4 by omega) with rfl | rfl | rfl | rfl | rfl <;> decide)
  have hwh : f.which.size ≤ 20 := by
    rcases h3 with h3 | h3
    · have := size0 h3; omega
    · exact (inB_size h3 (n := 20) (by decide)).2
  have hlk : f.look.size ≤ 20 := by
    rcases h4 with h4 | h4
    · have := size0 h4; omega
    · exact (inB_size h4 (n := 20) (by decide)).2
  have hsd : f.side.size ≤ 20 := by
    unfold okS at hS
    rw [Bool.or_eq_true, Bool.and_eq_true] at hS
    rcases hS with hS | ⟨hS, _⟩
    · have := size0 hS; omega
    · exact (inB_size hS (n := 20) (sidL_sz _)).2
  exact ⟨hc, hwh, hlk, hwt, hsd⟩
theorem what_non {f : Ft} (h : okFt f = true) : nonB f.what = false := by
  cases hn : nonB f.what
  · rfl
  · have := size0 hn
    have := (ft_bd h).2.2.2.1
    omega
theorem t1_size (f : Ft) : (t1 f).size ≤ f.which.size + 1 := by
  unfold t1
  split
  · show 0 ≤ _; omega
  · rw [ByteArray.size_append, ByteArray.size_append]; show 0 + 1 + _ ≤ _; omega
theorem t2_size (f : Ft) : (t2 f).size ≤ f.which.size + f.look.size + 2 := by
  have := t1_size f
  unfold t2
  split
  · omega
  · rw [ByteArray.size_append, ByteArray.size_append]; show (t1 f).size + 1 + _ ≤ _; omega
theorem l3T_size {f : Ft} (h : okFt f = true) : (l3T f).size ≤ 100 := by
  have h1 := t2_size f
  have h2 := ft_bd h
  unfold l3T
  split
  · rw [ByteArray.size_append, ByteArray.size_append]; show (t2 f).size + 1 + _ ≤ _; omega
  · rw [ByteArray.size_append, ByteArray.size_append, ByteArray.size_append, ByteArray.size_append]; show (t2 f).size + 1 + _ + 6 + _ ≤ _; omega
theorem ftB_size {f : Ft} (h : okFt f = true) : (ftB f).size ≤ 130 := by
  have h1 := l3T_size h
  have h2 := ft_bd h
  have h3 := itoaB_size (n := f.code) (by omega) (by omega)
  unfold ftB
  rw [ByteArray.size_append]
  omega
theorem join_ft {f : Ft} (h : okFt f = true) : Lib.join ((wsF f).map (·.data.toList)) [32] = (ftB f).data.toList := by
  have hw := what_non h
  unfold wsF wsK wd3
  rw [List.cons_append, List.map_cons, Lib.join_cons]
  unfold ftB l3T t2 t1 Lib.joinTail
  cases h1 : nonB f.which <;> cases h2 : nonB f.look <;> cases h3 : nonB f.side <;> simp [h1, h2, h3, hw, sideW, List.take, List.filter]
set_option maxRecDepth 100000 in
set_option maxHeartbeats 4000000 in
theorem featureText_any {f : Ft} {w : World} (ok : okFt f = true) (T : Tab w) :
    Calls Tryd.prog 70 #[.agg #[.int .i64 f.code, .string f.which, .string f.what, .string f.look, .string f.side]] w fun e w' => e = .returned (.string (ftB f)) ∧ Below w.heap.size w w' := by
  obtain ⟨i0, hi0, hz0, hz1, hz2⟩ := info_parts string_info
  have HJ := Lib.hid (join_ft ok)
  have hbd := ft_bd ok
  have HSZ := Lib.hid (ftB_size ok)
  have HL : Hid ((wsF f).length ≤ 6 ∧ 1 ≤ (wsF f).length) := (by
    unfold wsF wsK wd3
    rw [List.length_append, List.length_cons]
    have h1 := List.length_filter_le (fun x => !nonB x) (([f.which, f.look, f.what] : List ByteArray).take 3)
    have h2 : (([f.which, f.look, f.what] : List ByteArray).take 3).length = 3 := rfl
    split
    · simp only [List.length_nil]; omega
    · simp only [List.length_cons, List.length_nil]; omega : (wsF f).length ≤ 6 ∧ 1 ≤ (wsF f).length)
  have HLK : Hid (∀ k, (wsK f k).length ≤ 4) := (show ∀ k, (wsK f k).length ≤ 4 from fun k => by
    unfold wsK
    rw [List.length_cons]
    have h1 := List.length_filter_le (fun x => !nonB x) ((wd3 f).take k)
    have h2 : ((wd3 f).take k).length ≤ 3 := by rw [List.length_take]; exact Nat.min_le_right _ _
    omega)
  have K0 := Blk.new w 23 [.int .i64 f.code, .string f.which, .string f.what, .string f.look, .string f.side]
  have G0 : Below w.heap.size w (w.alloc (.cells #[.int .i64 f.code, .string f.which, .string f.what, .string f.look, .string f.side] 23)) := (by repeat (first | exact Below.refl _ _ | refine below_drewN ?_ _ | refine Below.drew ?_ | refine Below.alloc ?_ (by first | omega | (simp; done) | (simp; omega)) _ | refine Below.setCell ?_ (by first | omega | (simp; done) | (simp; omega)) _))
  clear ok
  go_enter Tryd.func70, Tryd.ntmps70
  obtain ⟨x0, x1, x2, x3, x4⟩ := blk5 K0
  go_wp2_with fail
  refine (Itoa_any (by omega) (by omega) (T.on G0)).mono ?_
  rintro e w1 ⟨rfl, hb⟩
  clear x0 x1 x2 x3 x4
  have K1 := K0.on hb
  have G1 := G0.trans (hb.mono G0.size)
  clear K0 G0
  have hlt1 := K1.lt
  have O1 := World.ownsRow_lit (base := w.heap.size + 1) (e := 9) (size := 1) w1 #[.string (itoaB f.code)] 1 (by omega) (by decide) rfl
  have K2 := K1.alloc (.cells #[.string (itoaB f.code)] 9)
  have G2 := G1.alloc G1.size (.cells #[.string (itoaB f.code)] 9)
  have hsz1 : (w1.alloc (.cells #[.string (itoaB f.code)] 9)).heap.size = w1.heap.size + 1 := by simp
  obtain ⟨x0, x1, x2, x3, x4⟩ := blk5 K2
  have Y3 := Blk.new (w1.alloc (.cells #[.string (itoaB f.code)] 9)) 9 [.string f.which, .string f.look, .string f.what]
  rw [hsz1] at Y3
  have O3 := O1.alloc (.cells #[.string f.which, .string f.look, .string f.what] 9)
  have K3 := K2.alloc (.cells #[.string f.which, .string f.look, .string f.what] 9)
  have G3 := G2.alloc G2.size (.cells #[.string f.which, .string f.look, .string f.what] 9)
  clear O1 K2 G2 hsz1 hb K1 G1
  go_wp2_with fail
  go_loopw [3, 18] (fun wd i wr => ∃ (k : Nat) (A : Option Addr) (c : Nat), k ≤ 3 ∧ i = .int .i64 k ∧ wd = .slice A (wsK f k).length c ∧ wr.ownsRow (w.heap.size + 1) 9 1 (.slice A (wsK f k).length c) (wsK f k).length (strs (wsK f k)) ∧ Value.ownBlock (.slice A (wsK f k).length c) ≠ some (w1.heap.size + 1) ∧ Blk wr w.heap.size 23 [.int .i64 f.code, .string f.which, .string f.what, .string f.look, .string f.side] ∧ Blk wr (w1.heap.size + 1) 9 (strs (wd3 f)) ∧ Below w.heap.size w wr) (fun _ i _ => 3 - (intOf i).toNat)
  case atStart => exact ⟨0, _, 1, by omega, rfl, rfl, O3, by simp [Value.ownBlock], K3, Y3, G3⟩
  clear O3 K3 Y3 G3 x0 x1 x2 x3 x4
  case round =>
    obtain ⟨k, A, c, hk, rfl, rfl, O, hne, K, Y, G⟩ := hrel
    by_cases hlt : k < 3
    · have hw3 : k < (wd3 f).length := hlt
      have cz : wr.cell? ⟨w1.heap.size + 1, k, none⟩ = some (.string (wd3 f)[k]) := by rw [Y.cell k]; simp [strs, hw3]
      have HS := Lib.hid (wsK_succ hw3)
      have hlk := HLK.out k
      generalize (wd3 f)[k] = x at *
      have hlY := Y.lt
      have hnx : x.toList.isEmpty = nonB x := rfl
      cases hx : nonB x
      · rw [hx] at hnx HS
        have HS2 : Hid (wsK f (k + 1) = wsK f k ++ [x]) := HS
        clear hx HS
        have HVV := Lib.hid ((Blk.new wr 9 (strs [x])).rd (size := 1) (n := 1) rfl)
        have OW := O.alloc (.cells #[.string x] 9)
        go_wp2_with (at_builtin; refine wpList_append_rd rfl _ _ 40 rfl (w.heap.size + 1) 9 i0 (.string ByteArray.empty) 1 16 Tryd.underlying40 hi0 hz0 hz1 hz2 rfl (by decide) _ _ _ rfl OW _ _ _ _ _ rfl HVV.out (strs_one _) ?c1 ?d1 ?e1 ?_)
        case c1 => simp only [maxLen]; omega
        case d1 => omega
        case e1 => simp; omega
        intro A7 c7 w7 h7 own7 grow7 at7
        have K7 := (K.alloc (.cells #[.string x] 9)).grown grow7 (fun h => by have := (O.lt _ h.symm).1; omega)
        have Y7 := (Y.alloc (.cells #[.string x] 9)).grown grow7 (fun h => hne h.symm)
        have G7 := (G.alloc G.size (.cells #[.string x] 9)).grown grow7 (by have := G.size; simp; omega) (fun j hj => by have := (O.lt j hj).1; omega)
        have N7 : Value.ownBlock (.slice A7 ((wsK f k).length + 1) c7) ≠ some (w1.heap.size + 1) := fun h => by
          rcases at7 _ h with h1 | h1
          · exact hne h1
          · first | omega | (rw [World.size_alloc] at h1; omega)
        have hl7 : (wsK f k).length + 1 = (wsK f (k + 1)).length := by rw [HS2.out, List.length_append]; rfl
        have O7 : w7.ownsRow (w.heap.size + 1) 9 1 (.slice A7 ((wsK f k).length + 1) c7) ((wsK f k).length + 1) (strs (wsK f (k + 1))) := by
          have e7 : strs (wsK f k) ++ strs [x] = strs (wsK f (k + 1)) := by rw [HS2.out]; simp [strs]
          rw [← e7]
          exact own7
        have HL7 := Lib.hid hl7
        clear own7 grow7 at7 OW O K Y G hl7
        go_wp2_with fail
        go_roundw
        case rel => exact ⟨k + 1, A7, c7, by omega, by go_num, by rw [← HL7.out], by rw [← HL7.out]; exact O7, by rw [← HL7.out]; exact N7, K7, Y7, G7⟩
        case measure => simp [intOf]; omega
      · rw [hx] at hnx HS
        have HS2 : Hid (wsK f (k + 1) = wsK f k) := (HS.out.trans (List.append_nil _) : wsK f (k + 1) = wsK f k)
        clear hx HS
        go_wp2_with fail
        go_roundw
        case rel => exact ⟨k + 1, A, c, by omega, by go_num, by rw [HS2.out], by rw [HS2.out]; exact O, by rw [HS2.out]; exact hne, K, Y, G⟩
        case measure => simp [intOf]; omega
    · have hk3 : k = 3 := by omega
      subst hk3
      obtain ⟨x0, x1, x2, x3, x4⟩ := blk5 K
      have hlk := HLK.out 3
      have hns : f.side.toList.isEmpty = nonB f.side := rfl
      cases hx : nonB f.side
      · rw [hx] at hns
        have HF : wsF f = wsK f 3 ++ [sideW, f.side] := by unfold wsF; rw [hx]; rfl
        clear hx
        have HVV := Lib.hid ((Blk.new wr 9 (strs [sideW, f.side])).rd (size := 1) (n := 2) rfl)
        have OW := O.alloc (.cells #[.string sideW, .string f.side] 9)
        have hkl := K.lt
        go_wp2_with (at_builtin; refine wpList_append_rd rfl _ _ 40 rfl (w.heap.size + 1) 9 i0 (.string ByteArray.empty) 1 16 Tryd.underlying40 hi0 hz0 hz1 hz2 rfl (by decide) _ _ _ rfl OW _ _ _ _ _ rfl HVV.out (strs_one _) ?c2 ?d2 ?e2 ?_)
        case c2 => simp only [maxLen]; omega
        case d2 => omega
        case e2 => simp; omega
        intro A7 c7 w7 h7 own7 grow7 at7
        have G7 := (G.alloc G.size (.cells #[.string sideW, .string f.side] 9)).grown grow7 (by have := G.size; simp; omega) (fun j hj => by have := (O.lt j hj).1; omega)
        have O7 : w7.ownsRow (w.heap.size + 1) 9 1 (.slice A7 ((wsK f 3).length + 2) c7) ((wsK f 3).length + 2) (strs (wsF f)) := by
          have e7 : strs (wsK f 3) ++ strs [sideW, f.side] = strs (wsF f) := by rw [HF]; simp [strs]
          rw [← e7]
          exact own7
        have HN9 : (wsF f).length = (wsK f 3).length + 2 := by rw [HF, List.length_append]; rfl
        clear own7 grow7 at7 OW O K Y G x0 x1 x2 x3 x4
        obtain ⟨bl, off, rfl, hbl, hca⟩ := (Rd.of_own O7).2 (by omega)
        have HJO : Calls Tryd.prog 108 #[.slice (some ⟨bl, off, none⟩) ((wsK f 3).length + 2) c7, .string ⟨#[32]⟩] w7 fun e w' => e = .returned (.string (ftB f)) ∧ Below w7.heap.size w7 w' := by
          have h9 := Tryd.strings_Join bl off c7 (wsF f) ⟨#[32]⟩ w7 (fun j u hu => by
            have := hca j (.string u) (by simp [strs, hu])
            exact this) hbl (by have := HL.out.1; omega) (by have := own_cap O7; omega) (by
              show (Lib.join ((wsF f).map (·.data.toList)) [32]).length ≤ _
              rw [HJ.out, Array.length_toList]; have := HSZ.out; show (ftB f).size ≤ _; omega)
          have h8 : (Lib.join ((wsF f).map (·.data.toList)) ([32] : List UInt8)).toArray = (ftB f).data := by rw [HJ.out]
          have h7 : (⟨(Lib.join ((wsF f).map (·.data.toList)) (⟨#[32]⟩ : ByteArray).data.toList).toArray⟩ : ByteArray) = ftB f := by
            show (⟨(Lib.join ((wsF f).map (·.data.toList)) ([32] : List UInt8)).toArray⟩ : ByteArray) = _
            rw [h8]
          rw [h7] at h9
          rw [HN9] at h9
          exact h9
        clear hca HF HN9
        go_wp2_with fail
        refine HJO.mono ?_
        rintro e w8 ⟨rfl, hb8⟩
        go_wp2_with fail
        go_ret
        exact ⟨rfl, G7.trans (hb8.mono G7.size)⟩
      · rw [hx] at hns
        have HF : wsF f = wsK f 3 := by unfold wsF; rw [hx]; exact List.append_nil _
        clear hx
        have HN9 : (wsF f).length = (wsK f 3).length := by rw [HF]
        have h1l := HL.out.2
        rw [HN9] at h1l
        obtain ⟨bl, off, rfl, hbl, hca⟩ := (Rd.of_own O).2 (by omega)
        have HJO : Calls Tryd.prog 108 #[.slice (some ⟨bl, off, none⟩) ((wsK f 3).length) c, .string ⟨#[32]⟩] wr fun e w' => e = .returned (.string (ftB f)) ∧ Below wr.heap.size wr w' := by
          have h9 := Tryd.strings_Join bl off c (wsF f) ⟨#[32]⟩ wr (fun j u hu => by
            have := hca j (.string u) (by rw [← HF]; simp [strs, hu])
            exact this) hbl (by have := HL.out.1; omega) (by have := own_cap O; omega) (by
              show (Lib.join ((wsF f).map (·.data.toList)) [32]).length ≤ _
              rw [HJ.out, Array.length_toList]; have := HSZ.out; show (ftB f).size ≤ _; omega)
          have h8 : (Lib.join ((wsF f).map (·.data.toList)) ([32] : List UInt8)).toArray = (ftB f).data := by rw [HJ.out]
          have h7 : (⟨(Lib.join ((wsF f).map (·.data.toList)) (⟨#[32]⟩ : ByteArray).data.toList).toArray⟩ : ByteArray) = ftB f := by
            show (⟨(Lib.join ((wsF f).map (·.data.toList)) ([32] : List UInt8)).toArray⟩ : ByteArray) = _
            rw [h8]
          rw [h7] at h9
          rw [HN9] at h9
          exact h9
        clear hca HF HN9
        go_wp2_with fail
        refine HJO.mono ?_
        rintro e w8 ⟨rfl, hb8⟩
        go_wp2_with fail
        go_ret
        exact ⟨rfl, G.trans (hb8.mono G.size)⟩
set_option maxRecDepth 100000 in
set_option maxHeartbeats 8000000 in
theorem l3Text_any {f : Ft} {w : World} (ok : okFt f = true) :
    Calls Tryd.prog 66 #[.agg #[.int .i64 f.code, .string f.which, .string f.what, .string f.look, .string f.side]] w fun e w' => e = .returned (.string (l3T f)) ∧ Below w.heap.size w w' := by
  obtain ⟨_, z1, z2, ⟨_, z3⟩, z4⟩ := ft_bd ok
  clear ok
  obtain ⟨code, which, what, look, side⟩ := f
  dsimp only at z1 z2 z3 z4
  have K0 := Blk.new w 23 [.int .i64 code, .string which, .string what, .string look, .string side]
  have G0 : Below w.heap.size w (w.alloc (.cells #[.int .i64 code, .string which, .string what, .string look, .string side] 23)) := (by repeat (first | exact Below.refl _ _ | refine below_drewN ?_ _ | refine Below.drew ?_ | refine Below.alloc ?_ (by first | omega | (simp; done) | (simp; omega)) _ | refine Below.setCell ?_ (by first | omega | (simp; done) | (simp; omega)) _))
  have hn1 : which.toList.isEmpty = nonB which := rfl
  have hn2 : look.toList.isEmpty = nonB look := rfl
  have hn3 : side.toList.isEmpty = nonB side := rfl
  obtain ⟨x0, x1, x2, x3, x4⟩ := blk5 K0
  cases h1 : nonB which
  · cases h2 : nonB look
    · cases h3 : nonB side
      · rw [h1] at hn1
        rw [h2] at hn2
        rw [h3] at hn3
        have H1 := Lib.hid h1
        have H2 := Lib.hid h2
        have H3 := Lib.hid h3
        clear h1 h2 h3
        have s1 : ¬ 9223372036854775807 < 1 + which.size := by omega
        have s2 : ¬ 9223372036854775807 < 1 + which.size + 1 := by omega
        have s3 : ¬ 9223372036854775807 < 1 + which.size + 1 + look.size := by omega
        have s4 : ¬ 9223372036854775807 < 1 + which.size + 1 + look.size + 1 := by omega
        have s5 : ¬ 9223372036854775807 < 1 + which.size + 1 + look.size + 1 + what.size := by omega
        have s6 : ¬ 9223372036854775807 < 1 + which.size + 1 + look.size + 1 + what.size + 6 := by omega
        have s7 : ¬ 9223372036854775807 < 1 + which.size + 1 + look.size + 1 + what.size + 6 + side.size := by omega
        go_enter Tryd.func66, Tryd.ntmps66
        go_wp2_with fail
        go_ret
        exact ⟨by unfold l3T t2 t1; dsimp only; rw [H1.out, H2.out, H3.out]; rfl, G0⟩
      · rw [h1] at hn1
        rw [h2] at hn2
        rw [h3] at hn3
        have H1 := Lib.hid h1
        have H2 := Lib.hid h2
        have H3 := Lib.hid h3
        clear h1 h2 h3
        have s1 : ¬ 9223372036854775807 < 1 + which.size := by omega
        have s2 : ¬ 9223372036854775807 < 1 + which.size + 1 := by omega
        have s3 : ¬ 9223372036854775807 < 1 + which.size + 1 + look.size := by omega
        have s4 : ¬ 9223372036854775807 < 1 + which.size + 1 + look.size + 1 := by omega
        have s5 : ¬ 9223372036854775807 < 1 + which.size + 1 + look.size + 1 + what.size := by omega
        go_enter Tryd.func66, Tryd.ntmps66
        go_wp2_with fail
        go_ret
        exact ⟨by unfold l3T t2 t1; dsimp only; rw [H1.out, H2.out, H3.out]; rfl, G0⟩
    · cases h3 : nonB side
      · rw [h1] at hn1
        rw [h2] at hn2
        rw [h3] at hn3
        have H1 := Lib.hid h1
        have H2 := Lib.hid h2
        have H3 := Lib.hid h3
        clear h1 h2 h3
        have s1 : ¬ 9223372036854775807 < 1 + which.size := by omega
        have s2 : ¬ 9223372036854775807 < 1 + which.size + 1 := by omega
        have s3 : ¬ 9223372036854775807 < 1 + which.size + 1 + what.size := by omega
        have s4 : ¬ 9223372036854775807 < 1 + which.size + 1 + what.size + 6 := by omega
        have s5 : ¬ 9223372036854775807 < 1 + which.size + 1 + what.size + 6 + side.size := by omega
        go_enter Tryd.func66, Tryd.ntmps66
        go_wp2_with fail
        go_ret
        exact ⟨by unfold l3T t2 t1; dsimp only; rw [H1.out, H2.out, H3.out]; rfl, G0⟩
      · rw [h1] at hn1
        rw [h2] at hn2
        rw [h3] at hn3
        have H1 := Lib.hid h1
        have H2 := Lib.hid h2
        have H3 := Lib.hid h3
        clear h1 h2 h3
        have s1 : ¬ 9223372036854775807 < 1 + which.size := by omega
        have s2 : ¬ 9223372036854775807 < 1 + which.size + 1 := by omega
        have s3 : ¬ 9223372036854775807 < 1 + which.size + 1 + what.size := by omega
        go_enter Tryd.func66, Tryd.ntmps66
        go_wp2_with fail
        go_ret
        exact ⟨by unfold l3T t2 t1; dsimp only; rw [H1.out, H2.out, H3.out]; rfl, G0⟩
  · cases h2 : nonB look
    · cases h3 : nonB side
      · rw [h1] at hn1
        rw [h2] at hn2
        rw [h3] at hn3
        have H1 := Lib.hid h1
        have H2 := Lib.hid h2
        have H3 := Lib.hid h3
        clear h1 h2 h3
        have s1 : ¬ 9223372036854775807 < 1 + look.size := by omega
        have s2 : ¬ 9223372036854775807 < 1 + look.size + 1 := by omega
        have s3 : ¬ 9223372036854775807 < 1 + look.size + 1 + what.size := by omega
        have s4 : ¬ 9223372036854775807 < 1 + look.size + 1 + what.size + 6 := by omega
        have s5 : ¬ 9223372036854775807 < 1 + look.size + 1 + what.size + 6 + side.size := by omega
        go_enter Tryd.func66, Tryd.ntmps66
        go_wp2_with fail
        go_ret
        exact ⟨by unfold l3T t2 t1; dsimp only; rw [H1.out, H2.out, H3.out]; rfl, G0⟩
      · rw [h1] at hn1
        rw [h2] at hn2
        rw [h3] at hn3
        have H1 := Lib.hid h1
        have H2 := Lib.hid h2
        have H3 := Lib.hid h3
        clear h1 h2 h3
        have s1 : ¬ 9223372036854775807 < 1 + look.size := by omega
        have s2 : ¬ 9223372036854775807 < 1 + look.size + 1 := by omega
        have s3 : ¬ 9223372036854775807 < 1 + look.size + 1 + what.size := by omega
        go_enter Tryd.func66, Tryd.ntmps66
        go_wp2_with fail
        go_ret
        exact ⟨by unfold l3T t2 t1; dsimp only; rw [H1.out, H2.out, H3.out]; rfl, G0⟩
    · cases h3 : nonB side
      · rw [h1] at hn1
        rw [h2] at hn2
        rw [h3] at hn3
        have H1 := Lib.hid h1
        have H2 := Lib.hid h2
        have H3 := Lib.hid h3
        clear h1 h2 h3
        have s1 : ¬ 9223372036854775807 < 1 + what.size := by omega
        have s2 : ¬ 9223372036854775807 < 1 + what.size + 6 := by omega
        have s3 : ¬ 9223372036854775807 < 1 + what.size + 6 + side.size := by omega
        go_enter Tryd.func66, Tryd.ntmps66
        go_wp2_with fail
        go_ret
        exact ⟨by unfold l3T t2 t1; dsimp only; rw [H1.out, H2.out, H3.out]; rfl, G0⟩
      · rw [h1] at hn1
        rw [h2] at hn2
        rw [h3] at hn3
        have H1 := Lib.hid h1
        have H2 := Lib.hid h2
        have H3 := Lib.hid h3
        clear h1 h2 h3
        have s1 : ¬ 9223372036854775807 < 1 + what.size := by omega
        go_enter Tryd.func66, Tryd.ntmps66
        go_wp2_with fail
        go_ret
        exact ⟨by unfold l3T t2 t1; dsimp only; rw [H1.out, H2.out, H3.out]; rfl, G0⟩
def ftV (f : Ft) : ByteArray := if okFt f = true then ftB f else ⟨#[]⟩
def ddOk (a b : Ft) : Bool := okFt a && okFt b
def ddV (a b : Ft) : Bool := ddOk a b && decide (l3T a = l3T b)
theorem eqt_test (a b : ByteArray) : (a.toList == b.toList) = decide (a = b) := eq_iff a b
theorem ok_code {a b : Ft} (ha : okFt a = true) (hb : okFt b = true) : okFt ⟨b.code, a.which, a.what, a.look, a.side⟩ = true := by
  unfold okFt okA okS at *
  simp only [Bool.and_eq_true] at *
  exact ⟨⟨hb.1.1, ha.1.2⟩, ha.2⟩
theorem ftB_eq {a b : Ft} : decide (ftB ⟨b.code, a.which, a.what, a.look, a.side⟩ = ftB b) = decide (l3T a = l3T b) := by
  have e : l3T ⟨b.code, a.which, a.what, a.look, a.side⟩ = l3T a := rfl
  unfold ftB
  rw [e]
  by_cases h : l3T a = l3T b
  · rw [h]; simp
  · rw [decide_eq_false h, decide_eq_false]
    intro h2
    apply h
    have h3 : (itoaB b.code ++ l3T a).data.toList = (itoaB b.code ++ l3T b).data.toList := by rw [h2]
    simp at h3
    apply ByteArray.ext
    exact h3
theorem two_newF (w : World) (t : TypeId) (c1 c2 : List Value) : Blk ((w.alloc (.cells c1.toArray t)).alloc (.cells c2.toArray t)) w.heap.size t c1 ∧ Blk ((w.alloc (.cells c1.toArray t)).alloc (.cells c2.toArray t)) (w.heap.size + 1) t c2 := two_newT w t t c1 c2
end Go.Proofs.YtmmpcchjalgokaaDoor
