/- Contracts: the family of a word, the sides of a family, the words that tell which one and how it looks; SidesFor. -/
import Derived.Test.YtmmpcchjalgokaaDoorCh
import Derived.Test.YtmmpcchjalgokaaDoorStrs
import Derived.Test.YtmmpcchjalgokaaDoorApp
import Derived.Test.YtmmpcchjalgokaaDoorRange
import Derived.Lib.SlicesS
import Derived.Lib.Strings
import Derived.Deep.DeepCutAuto
namespace Go.Proofs.YtmmpcchjalgokaaDoor
set_option linter.unusedVariables false
set_option linter.unusedSimpArgs false
open Go.RowKit
abbrev Bs := List UInt8
def mk (l : Bs) : ByteArray := ⟨l.toArray⟩
def inB (ws : List Bs) (s : ByteArray) : Bool := ws.any fun l => s.toList == l
theorem toL (s : ByteArray) : s.toList = s.data.toList := Lib.toList_data s
theorem beq_mk (s : ByteArray) (l : Bs) : (s.toList == l) = decide (mk l = s) := by
  rw [toL, Bool.eq_iff_iff, beq_iff_eq, decide_eq_true_eq]
  unfold mk
  constructor
  · intro h; rw [← h]
  · intro h; rw [← h]
theorem eq_iff (a b : ByteArray) : (a.toList == b.toList) = decide (a = b) := by
  rw [toL, toL, Bool.eq_iff_iff, beq_iff_eq, decide_eq_true_eq]
  constructor
  · intro h
    cases a; cases b
    simp only [ByteArray.mk.injEq]
    exact Array.toList_inj.1 h
  · intro h; rw [h]
theorem inB_idx (ws : List Bs) (s : ByteArray) : decide (0 ≤ Lib.idxOfS (ws.map mk) s) = inB ws s := by
  rw [Bool.eq_iff_iff, decide_eq_true_eq, Lib.idxOfS_nonneg_iff, List.mem_map]
  unfold inB
  rw [List.any_eq_true]
  constructor
  · rintro ⟨l, hl, e⟩
    exact ⟨l, hl, by rw [beq_mk, decide_eq_true_eq]; exact e⟩
  · rintro ⟨l, hl, e⟩
    rw [beq_mk, decide_eq_true_eq] at e
    exact ⟨l, hl, e⟩
def WL : Nat → List Bs
  | 0 => [[104, 105, 108, 108], [107, 110, 111, 108, 108], [115, 112, 117, 114]]
  | 1 => [[112, 105, 116], [104, 111, 108, 108, 111, 119]]
  | 2 => [[98, 111, 117, 108, 100, 101, 114], [99, 108, 105, 102, 102]]
  | 3 => [[115, 116, 114, 101, 97, 109], [112, 111, 110, 100]]
  | 4 => [[112, 97, 116, 104], [102, 101, 110, 99, 101], [119, 97, 108, 108]]
  | _ => []
def famI (s : ByteArray) : Int := if inB (WL 0) s = true then 0 else if inB (WL 1) s = true then 1 else if inB (WL 2) s = true then 2 else if inB (WL 3) s = true then 3 else if inB (WL 4) s = true then 4 else -1
theorem famI_bd (s : ByteArray) : -1 ≤ famI s ∧ famI s ≤ 4 := by unfold famI; repeat' split <;> omega
theorem famI_miss {s : ByteArray} (h : ∀ e, e < 5 → inB (WL e) s = false) : famI s = -1 := by
  unfold famI
  rw [h 0 (by omega), h 1 (by omega), h 2 (by omega), h 3 (by omega), h 4 (by omega)]; rfl
theorem famI_hit {s : ByteArray} {k : Nat} (hk : k < 5) (h : ∀ e, e < k → inB (WL e) s = false) (hh : inB (WL k) s = true) : famI s = k := by
  unfold famI
  rcases (show k = 0 ∨ k = 1 ∨ k = 2 ∨ k = 3 ∨ k = 4 by omega) with rfl | rfl | rfl | rfl | rfl
  · rw [hh]; rfl
  · rw [h 0 (by omega), hh]; rfl
  · rw [h 0 (by omega), h 1 (by omega), hh]; rfl
  · rw [h 0 (by omega), h 1 (by omega), h 2 (by omega), hh]; rfl
  · rw [h 0 (by omega), h 1 (by omega), h 2 (by omega), h 3 (by omega), hh]; rfl
set_option maxHeartbeats 2000000 in
theorem familyOf_any (s : ByteArray) (w : World) : Calls Tryd.prog 76 #[.string s] w fun e w' => e = .returned (.int .i64 (famI s)) ∧ w = w' := by
  cases h0 : (s.toList == [104, 105, 108, 108])
  rotate_left
  · have HF : Hid (famI s = 0) := by show _ = _; simp [famI, inB, WL, h0]
    go_enter Tryd.func76, Tryd.ntmps76
    go_wp2_with fail
    go_ret
    exact ⟨ret_int HF.out.symm, rfl⟩
  cases h1 : (s.toList == [107, 110, 111, 108, 108])
  rotate_left
  · have HF : Hid (famI s = 0) := by show _ = _; simp [famI, inB, WL, h0, h1]
    go_enter Tryd.func76, Tryd.ntmps76
    go_wp2_with fail
    go_ret
    exact ⟨ret_int HF.out.symm, rfl⟩
  cases h2 : (s.toList == [115, 112, 117, 114])
  rotate_left
  · have HF : Hid (famI s = 0) := by show _ = _; simp [famI, inB, WL, h0, h1, h2]
    go_enter Tryd.func76, Tryd.ntmps76
    go_wp2_with fail
    go_ret
    exact ⟨ret_int HF.out.symm, rfl⟩
  cases h3 : (s.toList == [112, 105, 116])
  rotate_left
  · have HF : Hid (famI s = 1) := by show _ = _; simp [famI, inB, WL, h0, h1, h2, h3]
    go_enter Tryd.func76, Tryd.ntmps76
    go_wp2_with fail
    go_ret
    exact ⟨ret_int HF.out.symm, rfl⟩
  cases h4 : (s.toList == [104, 111, 108, 108, 111, 119])
  rotate_left
  · have HF : Hid (famI s = 1) := by show _ = _; simp [famI, inB, WL, h0, h1, h2, h3, h4]
    go_enter Tryd.func76, Tryd.ntmps76
    go_wp2_with fail
    go_ret
    exact ⟨ret_int HF.out.symm, rfl⟩
  cases h5 : (s.toList == [98, 111, 117, 108, 100, 101, 114])
  rotate_left
  · have HF : Hid (famI s = 2) := by show _ = _; simp [famI, inB, WL, h0, h1, h2, h3, h4, h5]
    go_enter Tryd.func76, Tryd.ntmps76
    go_wp2_with fail
    go_ret
    exact ⟨ret_int HF.out.symm, rfl⟩
  cases h6 : (s.toList == [99, 108, 105, 102, 102])
  rotate_left
  · have HF : Hid (famI s = 2) := by show _ = _; simp [famI, inB, WL, h0, h1, h2, h3, h4, h5, h6]
    go_enter Tryd.func76, Tryd.ntmps76
    go_wp2_with fail
    go_ret
    exact ⟨ret_int HF.out.symm, rfl⟩
  cases h7 : (s.toList == [115, 116, 114, 101, 97, 109])
  rotate_left
  · have HF : Hid (famI s = 3) := by show _ = _; simp [famI, inB, WL, h0, h1, h2, h3, h4, h5, h6, h7]
    go_enter Tryd.func76, Tryd.ntmps76
    go_wp2_with fail
    go_ret
    exact ⟨ret_int HF.out.symm, rfl⟩
  cases h8 : (s.toList == [112, 111, 110, 100])
  rotate_left
  · have HF : Hid (famI s = 3) := by show _ = _; simp [famI, inB, WL, h0, h1, h2, h3, h4, h5, h6, h7, h8]
    go_enter Tryd.func76, Tryd.ntmps76
    go_wp2_with fail
    go_ret
    exact ⟨ret_int HF.out.symm, rfl⟩
  cases h9 : (s.toList == [112, 97, 116, 104])
  rotate_left
  · have HF : Hid (famI s = 4) := by show _ = _; simp [famI, inB, WL, h0, h1, h2, h3, h4, h5, h6, h7, h8, h9]
    go_enter Tryd.func76, Tryd.ntmps76
    go_wp2_with fail
    go_ret
    exact ⟨ret_int HF.out.symm, rfl⟩
  cases h10 : (s.toList == [102, 101, 110, 99, 101])
  rotate_left
  · have HF : Hid (famI s = 4) := by show _ = _; simp [famI, inB, WL, h0, h1, h2, h3, h4, h5, h6, h7, h8, h9, h10]
    go_enter Tryd.func76, Tryd.ntmps76
    go_wp2_with fail
    go_ret
    exact ⟨ret_int HF.out.symm, rfl⟩
  cases h11 : (s.toList == [119, 97, 108, 108])
  rotate_left
  · have HF : Hid (famI s = 4) := by show _ = _; simp [famI, inB, WL, h0, h1, h2, h3, h4, h5, h6, h7, h8, h9, h10, h11]
    go_enter Tryd.func76, Tryd.ntmps76
    go_wp2_with fail
    go_ret
    exact ⟨ret_int HF.out.symm, rfl⟩
  have HF : Hid (famI s = -1) := by show _ = _; simp [famI, inB, WL, h0, h1, h2, h3, h4, h5, h6, h7, h8, h9, h10, h11]
  go_enter Tryd.func76, Tryd.ntmps76
  go_wp2_with fail
  go_ret
  exact ⟨ret_int HF.out.symm, rfl⟩
def whichL : List Bs := [[110, 111, 114, 116, 104], [101, 97, 115, 116], [115, 111, 117, 116, 104], [119, 101, 115, 116], [117, 112, 112, 101, 114], [108, 111, 119, 101, 114], [109, 105, 100, 100, 108, 101]]
def lookL : List Bs := [[108, 111, 119], [104, 105, 103, 104], [119, 101, 116], [111, 118, 101, 114, 103, 114, 111, 119, 110]]
set_option maxHeartbeats 2000000 in
theorem isWhich_any (s : ByteArray) (w : World) : Calls Tryd.prog 69 #[.string s] w fun e w' => e = .returned (.bool (inB whichL s)) ∧ w = w' := by
  cases h0 : (s.toList == [110, 111, 114, 116, 104])
  rotate_left
  · have HF : Hid (inB whichL s = true) := by show _ = _; simp [inB, whichL, h0]
    go_enter Tryd.func69, Tryd.ntmps69
    go_wp2_with fail
    go_ret
    exact ⟨ret_bool HF.out.symm, rfl⟩
  cases h1 : (s.toList == [101, 97, 115, 116])
  rotate_left
  · have HF : Hid (inB whichL s = true) := by show _ = _; simp [inB, whichL, h0, h1]
    go_enter Tryd.func69, Tryd.ntmps69
    go_wp2_with fail
    go_ret
    exact ⟨ret_bool HF.out.symm, rfl⟩
  cases h2 : (s.toList == [115, 111, 117, 116, 104])
  rotate_left
  · have HF : Hid (inB whichL s = true) := by show _ = _; simp [inB, whichL, h0, h1, h2]
    go_enter Tryd.func69, Tryd.ntmps69
    go_wp2_with fail
    go_ret
    exact ⟨ret_bool HF.out.symm, rfl⟩
  cases h3 : (s.toList == [119, 101, 115, 116])
  rotate_left
  · have HF : Hid (inB whichL s = true) := by show _ = _; simp [inB, whichL, h0, h1, h2, h3]
    go_enter Tryd.func69, Tryd.ntmps69
    go_wp2_with fail
    go_ret
    exact ⟨ret_bool HF.out.symm, rfl⟩
  cases h4 : (s.toList == [117, 112, 112, 101, 114])
  rotate_left
  · have HF : Hid (inB whichL s = true) := by show _ = _; simp [inB, whichL, h0, h1, h2, h3, h4]
    go_enter Tryd.func69, Tryd.ntmps69
    go_wp2_with fail
    go_ret
    exact ⟨ret_bool HF.out.symm, rfl⟩
  cases h5 : (s.toList == [108, 111, 119, 101, 114])
  rotate_left
  · have HF : Hid (inB whichL s = true) := by show _ = _; simp [inB, whichL, h0, h1, h2, h3, h4, h5]
    go_enter Tryd.func69, Tryd.ntmps69
    go_wp2_with fail
    go_ret
    exact ⟨ret_bool HF.out.symm, rfl⟩
  cases h6 : (s.toList == [109, 105, 100, 100, 108, 101])
  rotate_left
  · have HF : Hid (inB whichL s = true) := by show _ = _; simp [inB, whichL, h0, h1, h2, h3, h4, h5, h6]
    go_enter Tryd.func69, Tryd.ntmps69
    go_wp2_with fail
    go_ret
    exact ⟨ret_bool HF.out.symm, rfl⟩
  have HF : Hid (inB whichL s = false) := by show _ = _; simp [inB, whichL, h0, h1, h2, h3, h4, h5, h6]
  go_enter Tryd.func69, Tryd.ntmps69
  go_wp2_with fail
  go_ret
  exact ⟨ret_bool HF.out.symm, rfl⟩
set_option maxHeartbeats 2000000 in
theorem isLook_any (s : ByteArray) (w : World) : Calls Tryd.prog 81 #[.string s] w fun e w' => e = .returned (.bool (inB lookL s)) ∧ w = w' := by
  cases h0 : (s.toList == [108, 111, 119])
  rotate_left
  · have HF : Hid (inB lookL s = true) := by show _ = _; simp [inB, lookL, h0]
    go_enter Tryd.func81, Tryd.ntmps81
    go_wp2_with fail
    go_ret
    exact ⟨ret_bool HF.out.symm, rfl⟩
  cases h1 : (s.toList == [104, 105, 103, 104])
  rotate_left
  · have HF : Hid (inB lookL s = true) := by show _ = _; simp [inB, lookL, h0, h1]
    go_enter Tryd.func81, Tryd.ntmps81
    go_wp2_with fail
    go_ret
    exact ⟨ret_bool HF.out.symm, rfl⟩
  cases h2 : (s.toList == [119, 101, 116])
  rotate_left
  · have HF : Hid (inB lookL s = true) := by show _ = _; simp [inB, lookL, h0, h1, h2]
    go_enter Tryd.func81, Tryd.ntmps81
    go_wp2_with fail
    go_ret
    exact ⟨ret_bool HF.out.symm, rfl⟩
  cases h3 : (s.toList == [111, 118, 101, 114, 103, 114, 111, 119, 110])
  rotate_left
  · have HF : Hid (inB lookL s = true) := by show _ = _; simp [inB, lookL, h0, h1, h2, h3]
    go_enter Tryd.func81, Tryd.ntmps81
    go_wp2_with fail
    go_ret
    exact ⟨ret_bool HF.out.symm, rfl⟩
  have HF : Hid (inB lookL s = false) := by show _ = _; simp [inB, lookL, h0, h1, h2, h3]
  go_enter Tryd.func81, Tryd.ntmps81
  go_wp2_with fail
  go_ret
  exact ⟨ret_bool HF.out.symm, rfl⟩
def sidL (f : Int) : List Bs := [[110, 111, 114, 116, 104], [101, 97, 115, 116], [115, 111, 117, 116, 104], [119, 101, 115, 116]] ++ (if f = 0 then [[116, 111, 112], [102, 111, 111, 116]] else if f = 1 then [[102, 111, 111, 116]] else if f = 2 then [[116, 111, 112], [102, 111, 111, 116], [98, 101, 116, 119, 101, 101, 110]] else [])
theorem sidL_len (f : Int) : (sidL f).length ≤ 7 ∧ 4 ≤ (sidL f).length := by
  unfold sidL
  repeat' split
  all_goals simp
theorem two_newT (w : World) (t1 t2 : TypeId) (c1 c2 : List Value) : Blk ((w.alloc (.cells c1.toArray t1)).alloc (.cells c2.toArray t2)) w.heap.size t1 c1 ∧ Blk ((w.alloc (.cells c1.toArray t1)).alloc (.cells c2.toArray t2)) (w.heap.size + 1) t2 c2 := by
  refine ⟨(Blk.new w t1 c1).alloc _, ?_⟩
  have h := Blk.new (w.alloc (.cells c1.toArray t1)) t2 c2
  rwa [show (w.alloc (.cells c1.toArray t1)).heap.size = w.heap.size + 1 by simp] at h
theorem Blk.rd2 {w : World} {g B n : Nat} {t : TypeId} {cs : List Value} (h : Blk w g t cs) (hl : cs.length = n) (hg : g < B) : Rd w B 1 (some ⟨g, 0, none⟩) n cs :=
  ⟨by rw [hl, Nat.mul_one], fun _ => ⟨g, 0, rfl, hg, fun j u hu => by rw [Nat.zero_add, h.cell]; exact hu⟩⟩
set_option maxRecDepth 100000 in
set_option maxHeartbeats 2000000 in
theorem sidesFor_any (f : Int) (w : World) : Calls Tryd.prog 78 #[.int .i64 f] w fun e w' => ∃ A cp, e = .returned (.slice A (sidL f).length cp) ∧ w'.ownsRow w.heap.size 9 1 (.slice A (sidL f).length cp) (sidL f).length (strs ((sidL f).map mk)) ∧ Below w.heap.size w w' := by
  obtain ⟨i0, hi0, hz0, hz1, hz2⟩ := info_parts string_info
  have B0 := Blk.new w 9 (strs ([[110, 111, 114, 116, 104], [101, 97, 115, 116], [115, 111, 117, 116, 104], [119, 101, 115, 116]].map mk))
  have G0 : Below w.heap.size w (w.alloc (.cells (strs ([[110, 111, 114, 116, 104], [101, 97, 115, 116], [115, 111, 117, 116, 104], [119, 101, 115, 116]].map mk)).toArray 9)) := (by repeat (first | exact Below.refl _ _ | refine below_drewN ?_ _ | refine Below.drew ?_ | refine Below.alloc ?_ (by first | omega | (simp; done) | (simp; omega)) _ | refine Below.setCell ?_ (by first | omega | (simp; done) | (simp; omega)) _))
  by_cases h0 : f = 0
  · subst h0
    have OW := (B0.alloc (.cells (strs ([[116, 111, 112], [102, 111, 111, 116]].map mk)).toArray 9)).own (base := w.heap.size) (size := 1) (n := 4) (Nat.le_refl _) rfl (by simp only [maxLen]; omega)
    have hV : Rd ((w.alloc (.cells (strs ([[110, 111, 114, 116, 104], [101, 97, 115, 116], [115, 111, 117, 116, 104], [119, 101, 115, 116]].map mk)).toArray 9)).alloc (.cells (strs ([[116, 111, 112], [102, 111, 111, 116]].map mk)).toArray 9)) (w.heap.size + 2) 1 (some ⟨w.heap.size + 1, 0, none⟩) 2 (strs ([[116, 111, 112], [102, 111, 111, 116]].map mk)) := (two_newT w 9 9 _ _).2.rd2 rfl (by omega)
    have G1 := G0.alloc G0.size (.cells (strs ([[116, 111, 112], [102, 111, 111, 116]].map mk)).toArray 9)
    have HV := Lib.hid hV
    clear hV B0
    go_enter Tryd.func78, Tryd.ntmps78
    go_wp2_with (at_builtin; refine wpList_append_rd rfl _ _ 40 rfl w.heap.size 9 i0 (.string ByteArray.empty) 1 16 Tryd.underlying40 hi0 hz0 hz1 hz2 rfl (by decide) _ _ _ rfl OW _ _ _ _ _ rfl HV.out (strs_one _) ?c0 ?d0 ?e0 ?_)
    case c0 => simp only [maxLen]; omega
    case d0 => omega
    case e0 => exact G1.size
    intro A8 c8 w8 h8 own8 grow8 at8
    have G8 := G1.grown grow8 G1.size (fun k hk => by simp [Value.ownBlock] at hk; omega)
    have HO := Lib.hid own8
    clear own8 grow8 at8 h8 OW HV G0 G1
    go_wp2_with fail
    go_ret
    exact ⟨A8, c8, rfl, HO.out, G8⟩
  by_cases h1 : f = 1
  · subst h1
    have OW := (B0.alloc (.cells (strs ([[102, 111, 111, 116]].map mk)).toArray 9)).own (base := w.heap.size) (size := 1) (n := 4) (Nat.le_refl _) rfl (by simp only [maxLen]; omega)
    have hV : Rd ((w.alloc (.cells (strs ([[110, 111, 114, 116, 104], [101, 97, 115, 116], [115, 111, 117, 116, 104], [119, 101, 115, 116]].map mk)).toArray 9)).alloc (.cells (strs ([[102, 111, 111, 116]].map mk)).toArray 9)) (w.heap.size + 2) 1 (some ⟨w.heap.size + 1, 0, none⟩) 1 (strs ([[102, 111, 111, 116]].map mk)) := (two_newT w 9 9 _ _).2.rd2 rfl (by omega)
    have G1 := G0.alloc G0.size (.cells (strs ([[102, 111, 111, 116]].map mk)).toArray 9)
    have HV := Lib.hid hV
    clear hV B0
    go_enter Tryd.func78, Tryd.ntmps78
    go_wp2_with (at_builtin; refine wpList_append_rd rfl _ _ 40 rfl w.heap.size 9 i0 (.string ByteArray.empty) 1 16 Tryd.underlying40 hi0 hz0 hz1 hz2 rfl (by decide) _ _ _ rfl OW _ _ _ _ _ rfl HV.out (strs_one _) ?c1 ?d1 ?e1 ?_)
    case c1 => simp only [maxLen]; omega
    case d1 => omega
    case e1 => exact G1.size
    intro A8 c8 w8 h8 own8 grow8 at8
    have G8 := G1.grown grow8 G1.size (fun k hk => by simp [Value.ownBlock] at hk; omega)
    have HO := Lib.hid own8
    clear own8 grow8 at8 h8 OW HV G0 G1
    go_wp2_with fail
    go_ret
    exact ⟨A8, c8, rfl, HO.out, G8⟩
  by_cases h2 : f = 2
  · subst h2
    have OW := (B0.alloc (.cells (strs ([[116, 111, 112], [102, 111, 111, 116], [98, 101, 116, 119, 101, 101, 110]].map mk)).toArray 9)).own (base := w.heap.size) (size := 1) (n := 4) (Nat.le_refl _) rfl (by simp only [maxLen]; omega)
    have hV : Rd ((w.alloc (.cells (strs ([[110, 111, 114, 116, 104], [101, 97, 115, 116], [115, 111, 117, 116, 104], [119, 101, 115, 116]].map mk)).toArray 9)).alloc (.cells (strs ([[116, 111, 112], [102, 111, 111, 116], [98, 101, 116, 119, 101, 101, 110]].map mk)).toArray 9)) (w.heap.size + 2) 1 (some ⟨w.heap.size + 1, 0, none⟩) 3 (strs ([[116, 111, 112], [102, 111, 111, 116], [98, 101, 116, 119, 101, 101, 110]].map mk)) := (two_newT w 9 9 _ _).2.rd2 rfl (by omega)
    have G1 := G0.alloc G0.size (.cells (strs ([[116, 111, 112], [102, 111, 111, 116], [98, 101, 116, 119, 101, 101, 110]].map mk)).toArray 9)
    have HV := Lib.hid hV
    clear hV B0
    go_enter Tryd.func78, Tryd.ntmps78
    go_wp2_with (at_builtin; refine wpList_append_rd rfl _ _ 40 rfl w.heap.size 9 i0 (.string ByteArray.empty) 1 16 Tryd.underlying40 hi0 hz0 hz1 hz2 rfl (by decide) _ _ _ rfl OW _ _ _ _ _ rfl HV.out (strs_one _) ?c2 ?d2 ?e2 ?_)
    case c2 => simp only [maxLen]; omega
    case d2 => omega
    case e2 => exact G1.size
    intro A8 c8 w8 h8 own8 grow8 at8
    have G8 := G1.grown grow8 G1.size (fun k hk => by simp [Value.ownBlock] at hk; omega)
    have HO := Lib.hid own8
    clear own8 grow8 at8 h8 OW HV G0 G1
    go_wp2_with fail
    go_ret
    exact ⟨A8, c8, rfl, HO.out, G8⟩
  · have e0 : ((f : Int) == 0) = false := by simpa using h0
    have e1 : ((f : Int) == 1) = false := by simpa using h1
    have e2 : ((f : Int) == 2) = false := by simpa using h2
    have es : sidL f = [[110, 111, 114, 116, 104], [101, 97, 115, 116], [115, 111, 117, 116, 104], [119, 101, 115, 116]] := by unfold sidL; rw [if_neg h0, if_neg h1, if_neg h2, List.append_nil]
    rw [es]
    have OW := B0.own (base := w.heap.size) (size := 1) (n := 4) (Nat.le_refl _) rfl (by simp only [maxLen]; omega)
    have HO := Lib.hid OW
    clear es OW B0 h0 h1 h2
    go_enter Tryd.func78, Tryd.ntmps78
    go_wp2_with fail
    go_ret
    exact ⟨_, _, rfl, HO.out, G0⟩
set_option maxRecDepth 100000 in
set_option maxHeartbeats 2000000 in
theorem l3Sides_any (f : Int) (w : World) : Calls Tryd.prog 79 #[.int .i64 f] w fun e w' => ∃ A cp, e = .returned (.slice A (sidL f).length cp) ∧ w'.ownsRow w.heap.size 9 1 (.slice A (sidL f).length cp) (sidL f).length (strs ((sidL f).map mk)) ∧ Below w.heap.size w w' := by
  obtain ⟨i0, hi0, hz0, hz1, hz2⟩ := info_parts string_info
  have B0 := Blk.new w 9 (strs ([[110, 111, 114, 116, 104], [101, 97, 115, 116], [115, 111, 117, 116, 104], [119, 101, 115, 116]].map mk))
  have G0 : Below w.heap.size w (w.alloc (.cells (strs ([[110, 111, 114, 116, 104], [101, 97, 115, 116], [115, 111, 117, 116, 104], [119, 101, 115, 116]].map mk)).toArray 9)) := (by repeat (first | exact Below.refl _ _ | refine below_drewN ?_ _ | refine Below.drew ?_ | refine Below.alloc ?_ (by first | omega | (simp; done) | (simp; omega)) _ | refine Below.setCell ?_ (by first | omega | (simp; done) | (simp; omega)) _))
  by_cases h0 : f = 0
  · subst h0
    have OW := (B0.alloc (.cells (strs ([[116, 111, 112], [102, 111, 111, 116]].map mk)).toArray 9)).own (base := w.heap.size) (size := 1) (n := 4) (Nat.le_refl _) rfl (by simp only [maxLen]; omega)
    have hV : Rd ((w.alloc (.cells (strs ([[110, 111, 114, 116, 104], [101, 97, 115, 116], [115, 111, 117, 116, 104], [119, 101, 115, 116]].map mk)).toArray 9)).alloc (.cells (strs ([[116, 111, 112], [102, 111, 111, 116]].map mk)).toArray 9)) (w.heap.size + 2) 1 (some ⟨w.heap.size + 1, 0, none⟩) 2 (strs ([[116, 111, 112], [102, 111, 111, 116]].map mk)) := (two_newT w 9 9 _ _).2.rd2 rfl (by omega)
    have G1 := G0.alloc G0.size (.cells (strs ([[116, 111, 112], [102, 111, 111, 116]].map mk)).toArray 9)
    have HV := Lib.hid hV
    clear hV B0
    go_enter Tryd.func79, Tryd.ntmps79
    go_wp2_with (at_builtin; refine wpList_append_rd rfl _ _ 40 rfl w.heap.size 9 i0 (.string ByteArray.empty) 1 16 Tryd.underlying40 hi0 hz0 hz1 hz2 rfl (by decide) _ _ _ rfl OW _ _ _ _ _ rfl HV.out (strs_one _) ?c0 ?d0 ?e0 ?_)
    case c0 => simp only [maxLen]; omega
    case d0 => omega
    case e0 => exact G1.size
    intro A8 c8 w8 h8 own8 grow8 at8
    have G8 := G1.grown grow8 G1.size (fun k hk => by simp [Value.ownBlock] at hk; omega)
    have HO := Lib.hid own8
    clear own8 grow8 at8 h8 OW HV G0 G1
    go_wp2_with fail
    go_ret
    exact ⟨A8, c8, rfl, HO.out, G8⟩
  by_cases h1 : f = 1
  · subst h1
    have OW := (B0.alloc (.cells (strs ([[102, 111, 111, 116]].map mk)).toArray 9)).own (base := w.heap.size) (size := 1) (n := 4) (Nat.le_refl _) rfl (by simp only [maxLen]; omega)
    have hV : Rd ((w.alloc (.cells (strs ([[110, 111, 114, 116, 104], [101, 97, 115, 116], [115, 111, 117, 116, 104], [119, 101, 115, 116]].map mk)).toArray 9)).alloc (.cells (strs ([[102, 111, 111, 116]].map mk)).toArray 9)) (w.heap.size + 2) 1 (some ⟨w.heap.size + 1, 0, none⟩) 1 (strs ([[102, 111, 111, 116]].map mk)) := (two_newT w 9 9 _ _).2.rd2 rfl (by omega)
    have G1 := G0.alloc G0.size (.cells (strs ([[102, 111, 111, 116]].map mk)).toArray 9)
    have HV := Lib.hid hV
    clear hV B0
    go_enter Tryd.func79, Tryd.ntmps79
    go_wp2_with (at_builtin; refine wpList_append_rd rfl _ _ 40 rfl w.heap.size 9 i0 (.string ByteArray.empty) 1 16 Tryd.underlying40 hi0 hz0 hz1 hz2 rfl (by decide) _ _ _ rfl OW _ _ _ _ _ rfl HV.out (strs_one _) ?c1 ?d1 ?e1 ?_)
    case c1 => simp only [maxLen]; omega
    case d1 => omega
    case e1 => exact G1.size
    intro A8 c8 w8 h8 own8 grow8 at8
    have G8 := G1.grown grow8 G1.size (fun k hk => by simp [Value.ownBlock] at hk; omega)
    have HO := Lib.hid own8
    clear own8 grow8 at8 h8 OW HV G0 G1
    go_wp2_with fail
    go_ret
    exact ⟨A8, c8, rfl, HO.out, G8⟩
  by_cases h2 : f = 2
  · subst h2
    have OW := (B0.alloc (.cells (strs ([[116, 111, 112], [102, 111, 111, 116], [98, 101, 116, 119, 101, 101, 110]].map mk)).toArray 9)).own (base := w.heap.size) (size := 1) (n := 4) (Nat.le_refl _) rfl (by simp only [maxLen]; omega)
    have hV : Rd ((w.alloc (.cells (strs ([[110, 111, 114, 116, 104], [101, 97, 115, 116], [115, 111, 117, 116, 104], [119, 101, 115, 116]].map mk)).toArray 9)).alloc (.cells (strs ([[116, 111, 112], [102, 111, 111, 116], [98, 101, 116, 119, 101, 101, 110]].map mk)).toArray 9)) (w.heap.size + 2) 1 (some ⟨w.heap.size + 1, 0, none⟩) 3 (strs ([[116, 111, 112], [102, 111, 111, 116], [98, 101, 116, 119, 101, 101, 110]].map mk)) := (two_newT w 9 9 _ _).2.rd2 rfl (by omega)
    have G1 := G0.alloc G0.size (.cells (strs ([[116, 111, 112], [102, 111, 111, 116], [98, 101, 116, 119, 101, 101, 110]].map mk)).toArray 9)
    have HV := Lib.hid hV
    clear hV B0
    go_enter Tryd.func79, Tryd.ntmps79
    go_wp2_with (at_builtin; refine wpList_append_rd rfl _ _ 40 rfl w.heap.size 9 i0 (.string ByteArray.empty) 1 16 Tryd.underlying40 hi0 hz0 hz1 hz2 rfl (by decide) _ _ _ rfl OW _ _ _ _ _ rfl HV.out (strs_one _) ?c2 ?d2 ?e2 ?_)
    case c2 => simp only [maxLen]; omega
    case d2 => omega
    case e2 => exact G1.size
    intro A8 c8 w8 h8 own8 grow8 at8
    have G8 := G1.grown grow8 G1.size (fun k hk => by simp [Value.ownBlock] at hk; omega)
    have HO := Lib.hid own8
    clear own8 grow8 at8 h8 OW HV G0 G1
    go_wp2_with fail
    go_ret
    exact ⟨A8, c8, rfl, HO.out, G8⟩
  · have e0 : ((f : Int) == 0) = false := by simpa using h0
    have e1 : ((f : Int) == 1) = false := by simpa using h1
    have e2 : ((f : Int) == 2) = false := by simpa using h2
    have es : sidL f = [[110, 111, 114, 116, 104], [101, 97, 115, 116], [115, 111, 117, 116, 104], [119, 101, 115, 116]] := by unfold sidL; rw [if_neg h0, if_neg h1, if_neg h2, List.append_nil]
    rw [es]
    have OW := B0.own (base := w.heap.size) (size := 1) (n := 4) (Nat.le_refl _) rfl (by simp only [maxLen]; omega)
    have HO := Lib.hid OW
    clear es OW B0 h0 h1 h2
    go_enter Tryd.func79, Tryd.ntmps79
    go_wp2_with fail
    go_ret
    exact ⟨_, _, rfl, HO.out, G0⟩
set_option maxHeartbeats 2000000 in
theorem l3At_any {R : Option Addr} {n c B : Nat} {ws : List ByteArray} {s : ByteArray} {w : World} (hR : Rd w B 1 R n (strs ws)) (hn : n ≤ 1000) :
    Calls Tryd.prog 61 #[.slice R n c, .string s] w fun e w' => e = .returned (.int .i64 (Lib.idxOfS ws s)) ∧ w = w' := by
  have hl : ws.length = n := by have := hR.1; rw [strs_len] at this; omega
  have HL := Lib.hid hl
  clear hl
  go_enter Tryd.func61, Tryd.ntmps61
  go_wp2_with fail
  go_loop [5] (fun i => ∃ k : Nat, k ≤ n ∧ i = .int .i64 k ∧ Hid (∀ j, j < k → ws.getD j ByteArray.empty ≠ s)) (fun i => n - (intOf i).toNat)
  case atStart => exact ⟨0, Nat.zero_le _, rfl, (fun j h => absurd h (by omega))⟩
  case round =>
    obtain ⟨k, hk, rfl, HN⟩ := hrel
    by_cases hlt : k < n
    · obtain ⟨b, off, rfl, hb, hc⟩ := hR.2 (by omega)
      have kx : k < ws.length := by rw [HL.out]; exact hlt
      have cell := hc k (.string ws[k]) (by unfold strs; rw [List.getElem?_map, List.getElem?_eq_getElem kx]; rfl)
      have HG := Lib.hid (show ws.getD k ByteArray.empty = ws[k] by simp [List.getD, List.getElem?_eq_getElem kx])
      have HQ := Lib.hid (eq_iff ws[k] s)
      clear hc
      generalize ws[k] = x at *
      by_cases hxs : x = s
      · have hq : (x.toList == s.toList) = true := by rw [HQ.out]; simpa using hxs
        have HX := Lib.hid (Lib.idxFromS_hit s ws k 0 kx (by rw [HG.out]; exact hxs) HN.out)
        clear hxs
        go_wp2_with fail
        go_ret
        exact ⟨ret_int (by have := HX.out; unfold Lib.idxOfS; omega), rfl⟩
      · have hq : (x.toList == s.toList) = false := by rw [HQ.out]; simpa using hxs
        have HX := Lib.hid hxs
        clear hxs
        go_wp2_with fail
        go_round
        case rel => exact ⟨k + 1, by omega, by go_num, (show ∀ j, j < k + 1 → ws.getD j ByteArray.empty ≠ s from fun j hj => by
          by_cases e : j = k
          · subst e; rw [HG.out]; exact HX.out
          · exact HN.out j (by omega))⟩
        case measure => simp [intOf]; omega
    · obtain rfl : k = n := by omega
      have HX := Lib.hid (Lib.idxFromS_miss s ws 0 (fun j hj => HN.out j (by rw [HL.out] at hj; exact hj)))
      go_wp2_with fail
      go_ret
      exact ⟨ret_int (by have := HX.out; unfold Lib.idxOfS; omega), rfl⟩
end Go.Proofs.YtmmpcchjalgokaaDoor
