/- Contracts: SheetText, the program's and the reference's. -/
import Derived.Test.YtmmpcchjalgokaaDoorCnt
import Derived.Test.YtmmpcchjalgokaaDoorFtx
import Derived.Deep.DeepCutAuto
namespace Go.Proofs.YtmmpcchjalgokaaDoor
set_option linter.unusedVariables false
set_option linter.unusedSimpArgs false
open Go.RowKit
def ftA (l : List Ft) (k : Nat) : Ft := l.getD k ⟨0, ⟨#[]⟩, ⟨#[]⟩, ⟨#[]⟩, ⟨#[]⟩⟩
theorem ftA_get {l : List Ft} {k : Nat} (h : k < l.length) : ftA l k = l[k] := by simp [ftA, List.getD, h]
/-- Whether a code stands twice, seen from place k. -/
def dupB (l : List Ft) (k : Nat) : Bool := (l.take k).any fun x => x.code == (ftA l k).code
def shOk (l : List Ft) : Bool := okFts l && (List.range l.length).all fun k => !dupB l k
/-- The text of the first k rows. -/
def shK (l : List Ft) : Nat → ByteArray
  | 0 => ⟨#[]⟩
  | k + 1 => shK l k ++ (itoaB ((k : Int) + 1) ++ (⟨#[46, 32]⟩ : ByteArray) ++ ftB (ftA l k) ++ (⟨#[10]⟩ : ByteArray))
def shV (l : List Ft) : ByteArray := if shOk l = true then shK l l.length else ⟨#[]⟩
theorem shK_size {l : List Ft} : ∀ k, k ≤ 1000 → (∀ j, j < k → okFt (ftA l j) = true) → (shK l k).size ≤ k * 160
  | 0, _, _ => by show 0 ≤ 0 * 160; omega
  | k + 1, h2, hok => by
    have ih := shK_size (l := l) k (by omega) (fun j hj => hok j (by omega))
    have h3 := ftB_size (hok k (by omega))
    have h4 := itoaB_size (n := (k : Int) + 1) (by omega) (by omega)
    rw [shK, ByteArray.size_append, ByteArray.size_append, ByteArray.size_append, ByteArray.size_append]
    show _ + (_ + 2 + _ + 1) ≤ _
    omega
theorem sh_dup {l : List Ft} {k : Nat} (hk : k < l.length) (h : dupB l k = true) : shOk l = false := by
  unfold shOk
  have : ((List.range l.length).all fun k => !dupB l k) = false := by
    rw [List.all_eq_false]
    exact ⟨k, List.mem_range.2 hk, by simp [h]⟩
  rw [this]; simp
theorem sh_bad {l : List Ft} (h : okFts l = false) : shOk l = false := by unfold shOk; rw [h]; rfl
theorem sh_yes {l : List Ft} (h : okFts l = true) (h2 : ∀ k, k < l.length → dupB l k = false) : shOk l = true := by
  unfold shOk
  rw [h]
  have : ((List.range l.length).all fun k => !dupB l k) = true := by
    rw [List.all_eq_true]
    intro k hk
    simp [h2 k (List.mem_range.1 hk)]
  rw [this]; rfl
theorem sh_no {l : List Ft} (h : shOk l = false) : shV l = ⟨#[]⟩ := by unfold shV; rw [h]; rfl
theorem sh_v {l : List Ft} (h : shOk l = true) : shV l = shK l l.length := by unfold shV; rw [if_pos h]
theorem okF_bad {l : List Ft} {k : Nat} (hk : k < l.length) (h : okFt l[k] = false) : okFts l = false := by
  cases ho : okFts l
  · rfl
  · have := (okFts_iff.1 ho).2 l[k] (List.getElem_mem hk)
    rw [h] at this; cases this
set_option maxHeartbeats 1000000 in
theorem sheet1 {l : List Ft} {g : Nat} {f : Ft} {w : World} (K : Blk w g 23 [.int .i64 f.code, .string f.which, .string f.what, .string f.look, .string f.side]) : FnPredF Tryd.prog 74 #[.pointer (some ⟨g, 0, none⟩)] (fun x => x.code == f.code) l w := by
  intro x hx W hb
  have K9 := (K.on hb).alloc (.cells #[.int .i64 x.code, .string x.which, .string x.what, .string x.look, .string x.side] 23)
  have Kx := Blk.new W 23 [.int .i64 x.code, .string x.which, .string x.what, .string x.look, .string x.side]
  obtain ⟨k0, k1, k2, k3, k4⟩ := blk5 K9
  obtain ⟨y0, y1, y2, y3, y4⟩ := blk5 Kx
  go_enter Tryd.func74, Tryd.ntmps74
  go_wp2_with fail
  go_ret
  exact ⟨rfl, (by repeat (first | exact Below.refl _ _ | refine below_drewN ?_ _ | refine Below.drew ?_ | refine Below.alloc ?_ (by first | omega | (simp; done) | (simp; omega)) _ | refine Below.setCell ?_ (by first | omega | (simp; done) | (simp; omega)) _))⟩
set_option maxRecDepth 100000 in
set_option maxHeartbeats 4000000 in
theorem SheetText_impl {R : Option Addr} {q cq : Nat} {l : List Ft} {w : World} (hR : Rd w w.heap.size 5 R q (fts l)) (hq : q ≤ 1048576) (hqc : q ≤ cq) (T : Tab w) :
    Calls Tryd.prog 14 #[.slice R q cq] w fun e w' => e = .returned (.tuple #[.string (shV l), .bool (shOk l)]) ∧ Below w.heap.size w w' := by
  have HX := Lib.hid hR.flen
  have eg := enters_of (P := Tryd.prog) Tryd.func74 (by kernel_rfl) rfl
  cases ok : okFts l
  · have e1 := sh_bad ok
    rw [sh_no e1, e1]
    have OK := Lib.hid ok
    clear ok e1
    go_enter Tryd.func14, Tryd.ntmps14
    go_wp2_with fail
    refine (areFeatures_any hR hq).mono ?_
    rintro e w1 ⟨rfl, G⟩
    rw [OK.out]
    go_wp2_with fail
    go_ret2
    exact ⟨rfl, G⟩
  · obtain ⟨h20, hall⟩ := okFts_iff.1 ok
    have OK := Lib.hid ok
    have HALL := Lib.hid hall
    have hq20 : q ≤ 20 := by have := HX.out; omega
    clear ok hall h20
    go_enter Tryd.func14, Tryd.ntmps14
    go_wp2_with fail
    refine (areFeatures_any hR hq).mono ?_
    rintro e w1 ⟨rfl, G⟩
    rw [OK.out]
    go_wp2_with fail
    go_loopw [4, 12] (fun s i wr => ∃ k : Nat, k ≤ q ∧ i = .int .i64 k ∧ s = .string (shK l k) ∧ Hid (∀ j, j < k → dupB l j = false) ∧ Below w.heap.size w wr) (fun _ i _ => q - (intOf i).toNat)
    case atStart => exact ⟨0, Nat.zero_le _, rfl, rfl, (show ∀ j, j < 0 → dupB l j = false from fun j h => absurd h (by omega)), G⟩
    clear G
    case round =>
      obtain ⟨k, hk, rfl, rfl, HN, G⟩ := hrel
      by_cases hlt : k < q
      · have kx : k < l.length := by rw [HX.out]; exact hlt
        obtain ⟨b, off, rfl, hbb, hca⟩ := hR.ft (show 0 < q by omega)
        obtain ⟨c0, c1, c2, c3, c4⟩ := (hca k kx).below G hbb
        have hsz := shK_size (l := l) k (by omega) (fun j hj => by have hj2 : j < l.length := by have := HX.out; omega
                                                                   rw [ftA_get hj2]; exact HALL.out _ (List.getElem_mem hj2))
        have HOF : Hid (okFt (ftA l k) = true) := (by rw [ftA_get kx]; exact HALL.out _ (List.getElem_mem kx) : okFt (ftA l k) = true)
        have HD : Hid (dupB l k = true → shOk l = false) := (fun h => sh_dup kx h : dupB l k = true → shOk l = false)
        have HTK : Hid (Rd wr wr.heap.size 5 (some ⟨b, off, none⟩) k (fts (l.take k))) := ((hR.takef (j := k) (by omega)).on G : Rd wr wr.heap.size 5 (some ⟨b, off, none⟩) k (fts (l.take k)))
        rw [← ftA_get kx] at c0 c1 c2 c3 c4
        obtain ⟨f, hf⟩ : ∃ f, f = ftA l k := ⟨_, rfl⟩
        rw [← hf] at c0 c1 c2 c3 c4 HOF
        have HF := Lib.hid hf
        have hft := ftB_size HOF.out
        have z1 := itoaB_size (n := (k : Int) + 1) (by omega) (by omega)
        have HK1 : Hid (shK l (k + 1) = shK l k ++ (itoaB ((k : Int) + 1) ++ (⟨#[46, 32]⟩ : ByteArray) ++ ftB f ++ (⟨#[10]⟩ : ByteArray))) := (by rw [hf]; rfl : shK l (k + 1) = _)
        have HDB : Hid (dupB l k = (l.take k).any fun x => x.code == f.code) := (by rw [hf]; rfl : dupB l k = _)
        have K0 := Blk.new wr 23 [.int .i64 f.code, .string f.which, .string f.what, .string f.look, .string f.side]
        have G0 := G.alloc G.size (.cells #[.int .i64 f.code, .string f.which, .string f.what, .string f.look, .string f.side] 23)
        clear hca kx hf
        go_wp2_with fail
        refine (ContainsFunc_ft 74 _ _ eg (sheet1 K0) (HTK.out.on (Below.alloc (Below.refl _ _) (Nat.le_refl _) _)) (by omega)).mono ?_
        rintro e w2 ⟨rfl, hb⟩
        rw [← HDB.out]
        have K := K0.on hb
        replace G := G0.trans (hb.mono G0.size)
        clear hb K0 G0 c0 c1 c2 c3 c4
        cases hd : dupB l k
        · have HN2 : Hid (∀ j, j < k + 1 → dupB l j = false) := (fun j hj => by
            rcases Nat.lt_succ_iff_lt_or_eq.1 hj with h | rfl
            · exact HN.out j h
            · exact hd : ∀ j, j < k + 1 → dupB l j = false)
          generalize hS : shK l k = S at *
          generalize hI : itoaB ((k : Int) + 1) = I1 at *
          have HI1 := Lib.hid hI
          generalize hFB : ftB f = FB at *
          have HFB := Lib.hid hFB
          have s1 : ¬ 9223372036854775807 < I1.size + 2 := by omega
          have s2 : ¬ 9223372036854775807 < I1.size + 2 + FB.size := by omega
          have s3 : ¬ 9223372036854775807 < I1.size + 2 + FB.size + 1 := by omega
          have s4 : ¬ 9223372036854775807 < S.size + (I1.size + 2 + FB.size + 1) := by omega
          have hki : IntKind.i64.wrap ((k : Int) + 1) = (k : Int) + 1 := IntWalk.i64_in _ (by omega)
          clear hd hS hI hFB HD HN
          go_wp2_with fail
          refine wp_region_held_drew (S := fun w' => Blk w' wr.heap.size 23 [.int .i64 f.code, .string f.which, .string f.what, .string f.look, .string f.side] ∧ Below w.heap.size w w') (by kernel_rfl) ?_ (fun hHeld => ?_)
          · (try dsimp only)
            first | exact ⟨K.drew, G.drew⟩ | exact hHeld
          generalize w2.drew = wx at *
          refine rgTake (i := 0) (d := 22) (v := ?_) rfl rfl (by kernel_rfl) (by kernel_rfl) (by kernel_rfl) (fun _ _ _ h => h) (by rfl) ?_ (by assumption) ?_
          rotate_left
          · ((intro w hSw); (try dsimp only at hSw); go_simp; (try with_reducible rfl))
          try simp only [Act.put, List.setIfInBounds_toArray, List.set_cons_zero, List.set_cons_succ]
          refine rgTake (i := 1) (d := 23) (v := ?_) rfl rfl (by kernel_rfl) (by kernel_rfl) (by kernel_rfl) (fun _ _ _ h => h) (by rfl) ?_ (by assumption) ?_
          rotate_left
          · ((intro w hSw); (try dsimp only at hSw); go_simp; (try with_reducible rfl))
          try simp only [Act.put, List.setIfInBounds_toArray, List.set_cons_zero, List.set_cons_succ]
          refine rgTake (i := 2) (d := 24) (v := ?_) rfl rfl (by kernel_rfl) (by kernel_rfl) (by kernel_rfl) (fun _ _ _ h => h) (by rfl) ?_ (by assumption) ?_
          rotate_left
          · ((intro w hSw); (try dsimp only at hSw); go_simp; (try with_reducible rfl))
          try simp only [Act.put, List.setIfInBounds_toArray, List.set_cons_zero, List.set_cons_succ]
          refine rgTake (i := 5) (d := 27) (v := ?_) rfl rfl (by kernel_rfl) (by kernel_rfl) (by kernel_rfl) (fun _ _ _ h => h) (by rfl) ?_ (by assumption) ?_
          rotate_left
          · ((intro w hSw); (try dsimp only at hSw); (obtain ⟨x0, x1, x2, x3, x4⟩ := blk5 hSw.1); go_simp; (try with_reducible rfl))
          try simp only [Act.put, List.setIfInBounds_toArray, List.set_cons_zero, List.set_cons_succ]
          refine wpAnyH_ready (rs := [3]) (by kernel_rfl) (by simp) ?_
          refine AllReadyH.cons rfl (fun K hK => ?_) AllReadyH.nil
          go_simp
          refine (Itoa_any (by omega) (by omega) (T.on hHeld.2)).mono ?_; rintro e w3 ⟨rfl, hb3⟩; rw [HI1.out]
          go_wp2_with fail
          refine hK.out _ _ ?_ (fun hHeld => ?_)
          · (try dsimp only)
            exact ⟨hHeld.1.on hb3, hHeld.2.trans (hb3.mono hHeld.2.size)⟩
          clear hK K
          try simp only [Act.put, List.setIfInBounds_toArray, List.set_cons_zero, List.set_cons_succ]
          refine rgTake (i := 4) (d := 26) (v := ?_) rfl rfl (by kernel_rfl) (by kernel_rfl) (by kernel_rfl) (fun _ _ _ h => h) (by rfl) ?_ (by assumption) ?_
          rotate_left
          · ((intro w hSw); (try dsimp only at hSw); go_simp; (try with_reducible rfl))
          try simp only [Act.put, List.setIfInBounds_toArray, List.set_cons_zero, List.set_cons_succ]
          refine wpAnyH_ready (rs := [6]) (by kernel_rfl) (by simp) ?_
          refine AllReadyH.cons rfl (fun K hK => ?_) AllReadyH.nil
          go_simp
          refine (featureText_any HOF.out (T.on hHeld.2)).mono ?_; rintro e w4 ⟨rfl, hb4⟩; rw [HFB.out]
          go_wp2_with fail
          refine hK.out _ _ ?_ (fun hHeld => ?_)
          · (try dsimp only)
            exact ⟨hHeld.1.on hb4, hHeld.2.trans (hb4.mono hHeld.2.size)⟩
          clear hK K
          try simp only [Act.put, List.setIfInBounds_toArray, List.set_cons_zero, List.set_cons_succ]
          refine rgTake (i := 7) (d := 29) (v := ?_) rfl rfl (by kernel_rfl) (by kernel_rfl) (by kernel_rfl) (fun _ _ _ h => h) (by rfl) ?_ (by assumption) ?_
          rotate_left
          · ((intro w hSw); (try dsimp only at hSw); go_simp; (try with_reducible rfl))
          try simp only [Act.put, List.setIfInBounds_toArray, List.set_cons_zero, List.set_cons_succ]
          refine rgTake (i := 8) (d := 30) (v := ?_) rfl rfl (by kernel_rfl) (by kernel_rfl) (by kernel_rfl) (fun _ _ _ h => h) (by rfl) ?_ (by assumption) ?_
          rotate_left
          · ((intro w hSw); (try dsimp only at hSw); go_simp; (try with_reducible rfl))
          try simp only [Act.put, List.setIfInBounds_toArray, List.set_cons_zero, List.set_cons_succ]
          refine rgTake (i := 9) (d := 31) (v := ?_) rfl rfl (by kernel_rfl) (by kernel_rfl) (by kernel_rfl) (fun _ _ _ h => h) (by rfl) ?_ (by assumption) ?_
          rotate_left
          · ((intro w hSw); (try dsimp only at hSw); go_simp; (try with_reducible rfl))
          try simp only [Act.put, List.setIfInBounds_toArray, List.set_cons_zero, List.set_cons_succ]
          refine rgTake (i := 10) (d := 4) (v := ?_) rfl rfl (by kernel_rfl) (by kernel_rfl) (by kernel_rfl) (fun _ _ _ h => h) (by rfl) ?_ (by assumption) ?_
          rotate_left
          · ((intro w hSw); (try dsimp only at hSw); go_simp; (try with_reducible rfl))
          try simp only [Act.put, List.setIfInBounds_toArray, List.set_cons_zero, List.set_cons_succ]
          refine wpAnyH_done (by kernel_rfl) ?_ _
          go_wp2_with fail
          go_roundw
          case rel => exact ⟨k + 1, by omega, by go_num, by rw [HK1.out], HN2, hHeld.2⟩
          case measure => simp [intOf] <;> omega
        · have h9 := HD.out hd
          have HE : Hid (shOk l = false ∧ shV l = ⟨#[]⟩) := ⟨h9, sh_no h9⟩
          clear h9 hd HD
          go_wp2_with fail
          go_ret2
          exact ⟨by rw [HE.out.1, HE.out.2]; rfl, G⟩
      · have hke : k = q := by omega
        have h9 : shOk l = true := sh_yes OK.out (fun j hj => HN.out j (by have := HX.out; omega))
        have h8 := sh_v h9
        rw [HX.out, ← hke] at h8
        have HE : Hid (shOk l = true ∧ shV l = shK l k) := ⟨h9, h8⟩
        clear h9 h8 hke
        go_wp2_with fail
        go_ret2
        exact ⟨by rw [HE.out.1, HE.out.2]; rfl, G⟩
set_option maxRecDepth 100000 in
set_option maxHeartbeats 4000000 in
theorem SheetText_spec {R : Option Addr} {q cq : Nat} {l : List Ft} {w : World} (hR : Rd w w.heap.size 5 R q (fts l)) (hq : q ≤ 1048576) (hqc : q ≤ cq) :
    Calls Tryd.prog 15 #[.slice R q cq] w fun e w' => e = .returned (.tuple #[.string (shV l), .bool (shOk l)]) ∧ Below w.heap.size w w' := by
  have HX := Lib.hid hR.flen
  go_enter Tryd.func15, Tryd.ntmps15
  go_wp2_with fail
  go_loopw [4, 5] (fun s i wr => ∃ k : Nat, k ≤ q ∧ k ≤ 21 ∧ i = .int .i64 k ∧ s = .string (shK l k) ∧ Hid (∀ j, j < k → okFt (ftA l j) = true) ∧ Hid (∀ j, j < k → dupB l j = false) ∧ Below w.heap.size w wr) (fun _ i _ => 30 - (intOf i).toNat)
  case atStart => exact ⟨0, Nat.zero_le _, by omega, rfl, rfl, (show ∀ j, j < 0 → okFt (ftA l j) = true from fun j h => absurd h (by omega)), (show ∀ j, j < 0 → dupB l j = false from fun j h => absurd h (by omega)), Below.refl _ _⟩
  case round =>
    obtain ⟨k, hk, hk21, rfl, rfl, HO, HN, G⟩ := hrel
    by_cases hlt : k < q
    · by_cases h20 : k ≤ 20
      · have kx : k < l.length := by rw [HX.out]; exact hlt
        obtain ⟨b, off, rfl, hbb, hca⟩ := hR.ft (show 0 < q by omega)
        have C0 := Lib.hid (hca k kx)
        have HCA := Lib.hid hca
        have hsz := shK_size (l := l) k (by omega) HO.out
        have HBD : Hid (okFt (ftA l k) = false → shOk l = false) := (fun h => sh_bad (okF_bad kx (by rw [← ftA_get kx]; exact h)) : okFt (ftA l k) = false → shOk l = false)
        have HD : Hid (dupB l k = true → shOk l = false) := (fun h => sh_dup kx h : dupB l k = true → shOk l = false)
        obtain ⟨f, hf⟩ : ∃ f, f = ftA l k := ⟨_, rfl⟩
        have C1 : Hid (FtAt w b (off + k * 5) f) := (by rw [hf, ftA_get kx]; exact C0.out : FtAt w b (off + k * 5) f)
        rw [← hf] at HBD
        have HF := Lib.hid hf
        have HK1 : Hid (shK l (k + 1) = shK l k ++ (itoaB ((k : Int) + 1) ++ (⟨#[46, 32]⟩ : ByteArray) ++ ftB f ++ (⟨#[10]⟩ : ByteArray))) := (by rw [hf]; rfl : shK l (k + 1) = _)
        have HDB : Hid (dupB l k = (l.take k).any fun x => x.code == f.code) := (by rw [hf]; rfl : dupB l k = _)
        clear hca kx hf C0
        obtain ⟨c0, c1, c2, c3, c4⟩ := C1.out.below G hbb
        cases hof : okFt f
        · have h9 := HBD.out hof
          have HE : Hid (shOk l = false ∧ shV l = ⟨#[]⟩) := ⟨h9, sh_no h9⟩
          have HOF := Lib.hid hof
          clear h9 hof HBD HD
          go_wp2_with fail
          refine (l3One_any f _).mono ?_
          rintro e w2 ⟨rfl, hb⟩
          rw [HOF.out]
          replace G := G.trans (hb.mono G.size)
          go_wp2_with fail
          go_ret2
          exact ⟨by rw [HE.out.1, HE.out.2]; rfl, G⟩
        · have HOF := Lib.hid hof
          clear hof HBD
          go_wp2_with fail
          refine (l3One_any f _).mono ?_
          rintro e w2 ⟨rfl, hb⟩
          rw [HOF.out]
          replace G := G.trans (hb.mono G.size)
          clear hb c0 c1 c2 c3 c4
          go_wp2_with fail
          go_loopw [6] (fun i wr => ∃ j : Nat, j ≤ k ∧ i = .int .i64 j ∧ Hid (∀ i, (hi : i < l.length) → i < j → l[i].code ≠ f.code) ∧ Below w.heap.size w wr) (fun i _ => k - (intOf i).toNat)
          case atStart => exact ⟨0, Nat.zero_le _, rfl, (show ∀ i, (hi : i < l.length) → i < 0 → l[i].code ≠ f.code from fun i _ h => absurd h (by omega)), G⟩
          clear G
          case round =>
            obtain ⟨j, hj, rfl, HJ, G⟩ := hrel
            obtain ⟨c0, c1, c2, c3, c4⟩ := C1.out.below G hbb
            by_cases hjk : j < k
            · have jx : j < l.length := by rw [HX.out]; omega
              obtain ⟨y0, y1, y2, y3, y4⟩ := (HCA.out j jx).below G hbb
              have HDJ : Hid (l[j].code = f.code → dupB l k = true) := (fun h => by
                rw [HDB.out, List.any_eq_true]
                exact ⟨l[j], List.mem_take_iff_getElem.2 ⟨j, by omega, rfl⟩, by simp [h]⟩ : l[j].code = f.code → dupB l k = true)
              have HJ2 : Hid (l[j].code ≠ f.code → ∀ i, (hi : i < l.length) → i < j + 1 → l[i].code ≠ f.code) := (fun h i hi hij => by
                rcases Nat.lt_succ_iff_lt_or_eq.1 hij with h1 | rfl
                · exact HJ.out i hi h1
                · exact h : l[j].code ≠ f.code → ∀ i, (hi : i < l.length) → i < j + 1 → l[i].code ≠ f.code)
              generalize l[j] = g at *
              clear HJ jx
              by_cases hce : g.code = f.code
              · have hceb : (g.code == f.code) = true := by simp [hce]
                have h9 := HD.out (HDJ.out hce)
                have HE : Hid (shOk l = false ∧ shV l = ⟨#[]⟩) := ⟨h9, sh_no h9⟩
                clear h9 hce HDJ HJ2
                go_wp2_with fail
                go_quiet (fail)
                go_wp2_with fail
                go_ret2
                exact ⟨by rw [HE.out.1, HE.out.2]; rfl, below_drewN G _⟩
              · have hceb : (g.code == f.code) = false := by simp [hce]
                have HJ3 : Hid (∀ i, (hi : i < l.length) → i < j + 1 → l[i].code ≠ f.code) := HJ2.out hce
                clear hce HDJ HJ2
                go_wp2_with fail
                go_quiet (fail)
                go_wp2_with fail
                go_roundw
                case rel => exact ⟨j + 1, by omega, by go_num, HJ3, below_drewN G _⟩
                case measure => simp [intOf] <;> omega
            · have hje : j = k := by omega
              subst hje
              have hd : dupB l j = false := by
                rw [HDB.out, List.any_eq_false]
                intro x hx
                obtain ⟨i, hi, rfl⟩ := List.mem_iff_getElem.1 hx
                rw [List.length_take] at hi
                rw [List.getElem_take]
                have := HJ.out i (by omega) (by omega)
                simpa using this
              have HN2 : Hid (∀ i, i < j + 1 → dupB l i = false) := (fun i hi => by
                rcases Nat.lt_succ_iff_lt_or_eq.1 hi with h | rfl
                · exact HN.out i h
                · exact hd : ∀ i, i < j + 1 → dupB l i = false)
              have HO2 : Hid (∀ i, i < j + 1 → okFt (ftA l i) = true) := (fun i hi => by
                rcases Nat.lt_succ_iff_lt_or_eq.1 hi with h | rfl
                · exact HO.out i h
                · rw [← HF.out]; exact HOF.out : ∀ i, i < j + 1 → okFt (ftA l i) = true)
              have z1 := itoaB_size (n := (j : Int) + 1) (by omega) (by omega)
              have hbd := ft_bd HOF.out
              have z2 := itoaB_size (n := f.code) (by omega) (by omega)
              have z3 := l3T_size HOF.out
              have HK2 : Hid (shK l (j + 1) = shK l j ++ itoaB ((j : Int) + 1) ++ (⟨#[46, 32]⟩ : ByteArray) ++ itoaB f.code ++ l3T f ++ (⟨#[10]⟩ : ByteArray)) := (by rw [HK1.out]; unfold ftB; simp only [ByteArray.append_assoc] : shK l (j + 1) = _)
              generalize hS : shK l j = S at *
              generalize hI : itoaB ((j : Int) + 1) = I1 at *
              have HI1 := Lib.hid hI
              generalize hC : itoaB f.code = C9 at *
              have HC9 := Lib.hid hC
              generalize hL : l3T f = L9 at *
              have HL9 := Lib.hid hL
              have s1 : ¬ 9223372036854775807 < S.size + I1.size := by omega
              have s2 : ¬ 9223372036854775807 < S.size + I1.size + 2 := by omega
              have s3 : ¬ 9223372036854775807 < S.size + I1.size + 2 + C9.size := by omega
              have s4 : ¬ 9223372036854775807 < S.size + I1.size + 2 + C9.size + L9.size := by omega
              have s5 : ¬ 9223372036854775807 < S.size + I1.size + 2 + C9.size + L9.size + 1 := by omega
              have hki : IntKind.i64.wrap ((j : Int) + 1) = (j : Int) + 1 := IntWalk.i64_in _ (by omega)
              clear hS hI hC hL hd HN HO HD HDB HK1 HJ hjk
              clear c0 c1 c2 c3 c4
              have CF : Hid (∀ W : World, Below w.heap.size w W → FtAt W b (off + j * 5) f) := (fun W hb => C1.out.below hb hbb : ∀ W : World, Below w.heap.size w W → FtAt W b (off + j * 5) f)
              go_wp2_with fail
              refine wp_region_held_drew (S := fun w' => Below w.heap.size w w') (by kernel_rfl) ?_ (fun hHeld => ?_)
              · (try dsimp only)
                first | exact G.drew | exact hHeld
              generalize wr.drew = wx at *
              refine rgTake (i := 0) (d := 39) (v := ?_) rfl rfl (by kernel_rfl) (by kernel_rfl) (by kernel_rfl) (fun _ _ _ h => h) (by rfl) ?_ (by assumption) ?_
              rotate_left
              · ((intro w hSw); (try dsimp only at hSw); go_simp; (try with_reducible rfl))
              try simp only [Act.put, List.setIfInBounds_toArray, List.set_cons_zero, List.set_cons_succ]
              refine rgTake (i := 1) (d := 40) (v := ?_) rfl rfl (by kernel_rfl) (by kernel_rfl) (by kernel_rfl) (fun _ _ _ h => h) (by rfl) ?_ (by assumption) ?_
              rotate_left
              · ((intro w hSw); (try dsimp only at hSw); go_simp; (try with_reducible rfl))
              try simp only [Act.put, List.setIfInBounds_toArray, List.set_cons_zero, List.set_cons_succ]
              refine rgTake (i := 2) (d := 41) (v := ?_) rfl rfl (by kernel_rfl) (by kernel_rfl) (by kernel_rfl) (fun _ _ _ h => h) (by rfl) ?_ (by assumption) ?_
              rotate_left
              · ((intro w hSw); (try dsimp only at hSw); go_simp; (try with_reducible rfl))
              try simp only [Act.put, List.setIfInBounds_toArray, List.set_cons_zero, List.set_cons_succ]
              refine rgTake (i := 6) (d := 45) (v := ?_) rfl rfl (by kernel_rfl) (by kernel_rfl) (by kernel_rfl) (fun _ _ _ h => h) (by rfl) ?_ (by assumption) ?_
              rotate_left
              · ((intro w hSw); (try dsimp only at hSw); go_simp; (try with_reducible rfl))
              try simp only [Act.put, List.setIfInBounds_toArray, List.set_cons_zero, List.set_cons_succ]
              refine rgTake (i := 7) (d := 46) (v := ?_) rfl rfl (by kernel_rfl) (by kernel_rfl) (by kernel_rfl) (fun _ _ _ h => h) (by rfl) ?_ (by assumption) ?_
              rotate_left
              · ((intro w hSw); (try dsimp only at hSw); go_simp; (try with_reducible rfl))
              try simp only [Act.put, List.setIfInBounds_toArray, List.set_cons_zero, List.set_cons_succ]
              refine rgTake (i := 8) (d := 47) (v := ?_) rfl rfl (by kernel_rfl) (by kernel_rfl) (by kernel_rfl) (fun _ _ _ h => h) (by rfl) ?_ (by assumption) ?_
              rotate_left
              · ((intro w hSw); (try dsimp only at hSw); go_simp; (try with_reducible rfl))
              try simp only [Act.put, List.setIfInBounds_toArray, List.set_cons_zero, List.set_cons_succ]
              refine rgTake (i := 9) (d := 48) (v := ?_) rfl rfl (by kernel_rfl) (by kernel_rfl) (by kernel_rfl) (fun _ _ _ h => h) (by rfl) ?_ (by assumption) ?_
              rotate_left
              · ((intro w hSw); (try dsimp only at hSw); go_simp; (try with_reducible rfl))
              try simp only [Act.put, List.setIfInBounds_toArray, List.set_cons_zero, List.set_cons_succ]
              refine rgTake (i := 10) (d := 49) (v := ?_) rfl rfl (by kernel_rfl) (by kernel_rfl) (by kernel_rfl) (fun _ _ _ h => h) (by rfl) ?_ (by assumption) ?_
              rotate_left
              · ((intro w hSw); (try dsimp only at hSw); (obtain ⟨x0, x1, x2, x3, x4⟩ := CF.out _ hSw); go_simp; (try with_reducible rfl))
              try simp only [Act.put, List.setIfInBounds_toArray, List.set_cons_zero, List.set_cons_succ]
              refine rgTake (i := 13) (d := 52) (v := ?_) rfl rfl (by kernel_rfl) (by kernel_rfl) (by kernel_rfl) (fun _ _ _ h => h) (by rfl) ?_ (by assumption) ?_
              rotate_left
              · ((intro w hSw); (try dsimp only at hSw); go_simp; (try with_reducible rfl))
              try simp only [Act.put, List.setIfInBounds_toArray, List.set_cons_zero, List.set_cons_succ]
              refine rgTake (i := 14) (d := 53) (v := ?_) rfl rfl (by kernel_rfl) (by kernel_rfl) (by kernel_rfl) (fun _ _ _ h => h) (by rfl) ?_ (by assumption) ?_
              rotate_left
              · ((intro w hSw); (try dsimp only at hSw); go_simp; (try with_reducible rfl))
              try simp only [Act.put, List.setIfInBounds_toArray, List.set_cons_zero, List.set_cons_succ]
              refine rgTake (i := 15) (d := 54) (v := ?_) rfl rfl (by kernel_rfl) (by kernel_rfl) (by kernel_rfl) (fun _ _ _ h => h) (by rfl) ?_ (by assumption) ?_
              rotate_left
              · ((intro w hSw); (try dsimp only at hSw); go_simp; (try with_reducible rfl))
              try simp only [Act.put, List.setIfInBounds_toArray, List.set_cons_zero, List.set_cons_succ]
              refine rgTake (i := 16) (d := 55) (v := ?_) rfl rfl (by kernel_rfl) (by kernel_rfl) (by kernel_rfl) (fun _ _ _ h => h) (by rfl) ?_ (by assumption) ?_
              rotate_left
              · ((intro w hSw); (try dsimp only at hSw); (obtain ⟨x0, x1, x2, x3, x4⟩ := CF.out _ hSw); go_simp; (try with_reducible rfl))
              try simp only [Act.put, List.setIfInBounds_toArray, List.set_cons_zero, List.set_cons_succ]
              refine wpAnyH_ready (rs := [3]) (by kernel_rfl) (by simp) ?_
              refine AllReadyH.cons rfl (fun K hK => ?_) AllReadyH.nil
              go_simp
              refine (l1Num_any (by omega) (by omega)).mono ?_; rintro e w3 ⟨rfl, hb3⟩; rw [HI1.out]
              go_wp2_with fail
              refine hK.out _ _ ?_ (fun hHeld => ?_)
              · (try dsimp only)
                exact hHeld.trans (hb3.mono hHeld.size)
              clear hK K
              try simp only [Act.put, List.setIfInBounds_toArray, List.set_cons_zero, List.set_cons_succ]
              refine rgTake (i := 4) (d := 43) (v := ?_) rfl rfl (by kernel_rfl) (by kernel_rfl) (by kernel_rfl) (fun _ _ _ h => h) (by rfl) ?_ (by assumption) ?_
              rotate_left
              · ((intro w hSw); (try dsimp only at hSw); go_simp; (try with_reducible rfl))
              try simp only [Act.put, List.setIfInBounds_toArray, List.set_cons_zero, List.set_cons_succ]
              refine rgTake (i := 5) (d := 44) (v := ?_) rfl rfl (by kernel_rfl) (by kernel_rfl) (by kernel_rfl) (fun _ _ _ h => h) (by rfl) ?_ (by assumption) ?_
              rotate_left
              · ((intro w hSw); (try dsimp only at hSw); go_simp; (try with_reducible rfl))
              try simp only [Act.put, List.setIfInBounds_toArray, List.set_cons_zero, List.set_cons_succ]
              refine wpAnyH_ready (rs := [11]) (by kernel_rfl) (by simp) ?_
              refine AllReadyH.cons rfl (fun K hK => ?_) AllReadyH.nil
              go_simp
              refine (l1Num_any (by omega) (by omega)).mono ?_; rintro e w4 ⟨rfl, hb4⟩; rw [HC9.out]
              go_wp2_with fail
              refine hK.out _ _ ?_ (fun hHeld => ?_)
              · (try dsimp only)
                exact hHeld.trans (hb4.mono hHeld.size)
              clear hK K
              try simp only [Act.put, List.setIfInBounds_toArray, List.set_cons_zero, List.set_cons_succ]
              refine rgTake (i := 12) (d := 51) (v := ?_) rfl rfl (by kernel_rfl) (by kernel_rfl) (by kernel_rfl) (fun _ _ _ h => h) (by rfl) ?_ (by assumption) ?_
              rotate_left
              · ((intro w hSw); (try dsimp only at hSw); go_simp; (try with_reducible rfl))
              try simp only [Act.put, List.setIfInBounds_toArray, List.set_cons_zero, List.set_cons_succ]
              refine wpAnyH_ready (rs := [17]) (by kernel_rfl) (by simp) ?_
              refine AllReadyH.cons rfl (fun K hK => ?_) AllReadyH.nil
              go_simp
              refine (l3Text_any HOF.out).mono ?_; rintro e w5 ⟨rfl, hb5⟩; rw [HL9.out]
              go_wp2_with fail
              refine hK.out _ _ ?_ (fun hHeld => ?_)
              · (try dsimp only)
                exact hHeld.trans (hb5.mono hHeld.size)
              clear hK K
              try simp only [Act.put, List.setIfInBounds_toArray, List.set_cons_zero, List.set_cons_succ]
              refine rgTake (i := 18) (d := 57) (v := ?_) rfl rfl (by kernel_rfl) (by kernel_rfl) (by kernel_rfl) (fun _ _ _ h => h) (by rfl) ?_ (by assumption) ?_
              rotate_left
              · ((intro w hSw); (try dsimp only at hSw); go_simp; (try with_reducible rfl))
              try simp only [Act.put, List.setIfInBounds_toArray, List.set_cons_zero, List.set_cons_succ]
              refine rgTake (i := 19) (d := 58) (v := ?_) rfl rfl (by kernel_rfl) (by kernel_rfl) (by kernel_rfl) (fun _ _ _ h => h) (by rfl) ?_ (by assumption) ?_
              rotate_left
              · ((intro w hSw); (try dsimp only at hSw); go_simp; (try with_reducible rfl))
              try simp only [Act.put, List.setIfInBounds_toArray, List.set_cons_zero, List.set_cons_succ]
              refine rgTake (i := 20) (d := 4) (v := ?_) rfl rfl (by kernel_rfl) (by kernel_rfl) (by kernel_rfl) (fun _ _ _ h => h) (by rfl) ?_ (by assumption) ?_
              rotate_left
              · ((intro w hSw); (try dsimp only at hSw); go_simp; (try with_reducible rfl))
              try simp only [Act.put, List.setIfInBounds_toArray, List.set_cons_zero, List.set_cons_succ]
              refine wpAnyH_done (by kernel_rfl) ?_ _
              go_wp2_with fail
              go_roundw
              case rel => exact ⟨j + 1, by omega, by omega, by go_num, by rw [HK2.out], HO2, HN2, hHeld⟩
              case measure => simp [intOf] <;> omega
      · have hq20 : 20 < q := by omega
        have h9 : shOk l = false := sh_bad (by
          cases ho : okFts l
          · rfl
          · have := (okFts_iff.1 ho).1
            have := HX.out
            omega)
        have HE : Hid (shOk l = false ∧ shV l = ⟨#[]⟩) := ⟨h9, sh_no h9⟩
        clear h9
        go_wp2_with fail
        go_ret2
        exact ⟨by rw [HE.out.1, HE.out.2]; rfl, G⟩
    · have hke : k = q := by omega
      by_cases hq20 : 20 < q
      · have h9 : shOk l = false := sh_bad (by
          cases ho : okFts l
          · rfl
          · have := (okFts_iff.1 ho).1
            have := HX.out
            omega)
        have HE : Hid (shOk l = false ∧ shV l = ⟨#[]⟩) := ⟨h9, sh_no h9⟩
        clear h9 hke
        go_wp2_with fail
        go_ret2
        exact ⟨by rw [HE.out.1, HE.out.2]; rfl, G⟩
      · have h9 : shOk l = true := sh_yes (okFts_iff.2 ⟨by rw [HX.out]; omega, fun f hf => by
          obtain ⟨i, hi, rfl⟩ := List.mem_iff_getElem.1 hf
          rw [← ftA_get hi]
          exact HO.out i (by have := HX.out; omega)⟩) (fun j hj => HN.out j (by have := HX.out; omega))
        have h8 := sh_v h9
        rw [HX.out, ← hke] at h8
        have HE : Hid (shOk l = true ∧ shV l = shK l k) := ⟨h9, h8⟩
        clear h9 h8 hke
        go_wp2_with fail
        go_ret2
        exact ⟨by rw [HE.out.1, HE.out.2]; rfl, G⟩
end Go.Proofs.YtmmpcchjalgokaaDoor
