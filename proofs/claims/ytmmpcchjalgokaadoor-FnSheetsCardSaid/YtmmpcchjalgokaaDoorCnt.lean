/- Contracts: areFeatures; CountFamilies, the program's and the reference's. -/
import Derived.Test.YtmmpcchjalgokaaDoorFts
import Derived.Deep.DeepCutAuto
namespace Go.Proofs.YtmmpcchjalgokaaDoor
set_option linter.unusedVariables false
set_option linter.unusedSimpArgs false
open Go.RowKit
def idxB {α : Type} (p : α → Bool) : List α → Nat → Int
  | [], _ => -1
  | x :: r, k => if p x then k else idxB p r (k + 1)
theorem idxB_hit {α : Type} {p : α → Bool} : ∀ (l : List α) (b k : Nat) (hk : k < l.length), p l[k] = true → (∀ (j : Nat) (hj : j < l.length), j < k → p l[j] = false) → idxB p l b = ((b + k : Nat) : Int)
  | x :: r, b, 0, _, h, _ => by simp [idxB]; intro h'; simp at h; rw [h] at h'; cases h'
  | x :: r, b, k + 1, hk, h, hn => by
    have h0 := hn 0 (by simp) (by omega)
    simp at h0
    have hk' : k < r.length := by simpa using hk
    have := idxB_hit r (b + 1) k hk' (by simpa using h) (fun j hj hjk => hn (j + 1) (by simpa using hj) (by omega))
    rw [idxB, if_neg (by simp [h0]), this]
    congr 1; omega
theorem idxB_miss {α : Type} {p : α → Bool} : ∀ (l : List α) (b : Nat), (∀ (j : Nat) (hj : j < l.length), p l[j] = false) → idxB p l b = -1
  | [], _, _ => rfl
  | x :: r, b, h => by
    have h0 := h 0 (by simp)
    simp at h0
    rw [idxB, if_neg (by simp [h0])]
    exact idxB_miss r (b + 1) fun j hj => h (j + 1) (by simpa using hj)
theorem idxB_any {α : Type} {p : α → Bool} : ∀ (l : List α) (b : Nat), decide (0 ≤ idxB p l b) = l.any p
  | [], _ => by simp [idxB]
  | x :: r, b => by
    rw [idxB, List.any_cons]
    cases h : p x
    · simpa using idxB_any r (b + 1)
    · simp
/-- What is asked of a predicate on the features of a list that is handed to the library. -/
def FnPredF (P : Program) (g : Nat) (lb : Array Value) (p : Ft → Bool) (l : List Ft) (w : World) : Prop :=
  ∀ x ∈ l, ∀ (W : World), Below w.heap.size w W → Calls P g (#[.agg #[.int .i64 x.code, .string x.which, .string x.what, .string x.look, .string x.side]] ++ lb) W fun e w' => e = .returned (.bool (p x)) ∧ Below W.heap.size W w'
set_option maxHeartbeats 1000000 in
theorem IndexFunc_ft (g : Nat) (lb : Array Value) (p : Ft → Bool) (eg : ∀ args w, (callFunc g args).run Tryd.prog w = .ok (.enter g args) w) {A : Option Addr} {n c : Nat} {l : List Ft} {w : World} (hp : FnPredF Tryd.prog g lb p l w) (hA : Rd w w.heap.size 5 A n (fts l)) (hn : n ≤ 1048576) :
    Calls Tryd.prog 121 #[.slice A n c, .func (.func g) #[] lb] w fun e w' => e = .returned (.int .i64 (idxB p l 0)) ∧ Below w.heap.size w w' := by
  have HX := Lib.hid hA.flen
  have HP := Lib.hid hp
  clear hp
  go_enter Tryd.func121, Tryd.ntmps121
  go_wp2
  go_loopw [8] (fun i wr => ∃ k : Nat, k ≤ n ∧ i = .int .i64 k ∧ Hid (∀ (j : Nat) (hj : j < l.length), j < k → p l[j] = false) ∧ Below w.heap.size w wr) (fun i _ => n - (intOf i).toNat)
  case atStart => exact ⟨0, Nat.zero_le _, rfl, (fun j _ h => absurd h (by omega)), Below.refl _ _⟩
  case round =>
    obtain ⟨k, hk, rfl, HN, hbel⟩ := hrel
    by_cases hlt : k < n
    · obtain ⟨b, off, rfl, hbb, hca⟩ := hA.ft (show 0 < n by omega)
      have kx : k < l.length := by rw [HX.out]; exact hlt
      obtain ⟨c0, c1, c2, c3, c4⟩ := (hca k kx).below hbel hbb
      clear hca
      have hcall := HP.out l[k] (List.getElem_mem kx) wr hbel
      have HQ9 : Hid (p l[k] = p l[k]) := rfl
      generalize hq : p l[k] = pb at hcall
      have HQ := Lib.hid hq
      clear hq
      have H2 := Lib.hid hcall
      clear hcall
      cases pb
      · go_wp2_with (go_at_fn g; refine (H2.out).mono ?_; rintro e w' ⟨rfl, hb1⟩)
        go_roundw
        case rel => exact ⟨k + 1, by omega, by go_num, (show ∀ (j : Nat) (hj : j < l.length), j < k + 1 → p l[j] = false from fun j hj hjk => by
          by_cases e : j = k
          · subst e; exact HQ.out
          · exact HN.out j hj (by omega)), hbel.trans (hb1.mono hbel.size)⟩
        case measure => simp [intOf]; omega
      · go_wp2_with (go_at_fn g; refine (H2.out).mono ?_; rintro e w' ⟨rfl, hb1⟩)
        go_ret
        exact ⟨ret_int (by rw [idxB_hit l 0 k kx HQ.out HN.out]; omega), hbel.trans (hb1.mono hbel.size)⟩
    · go_wp2
      go_ret
      exact ⟨ret_int (by rw [idxB_miss l 0 fun j hj => HN.out j hj (by rw [HX.out] at hj; omega)]), hbel⟩
theorem ContainsFunc_ft (g : Nat) (lb : Array Value) (p : Ft → Bool) (eg : ∀ args w, (callFunc g args).run Tryd.prog w = .ok (.enter g args) w) {A : Option Addr} {n c : Nat} {l : List Ft} {w : World} (hp : FnPredF Tryd.prog g lb p l w) (hA : Rd w w.heap.size 5 A n (fts l)) (hn : n ≤ 1048576) :
    Calls Tryd.prog 73 #[.slice A n c, .func (.func g) #[] lb] w fun e w' => e = .returned (.bool (l.any p)) ∧ Below w.heap.size w w' := by
  have HB := Lib.hid (idxB_any (p := p) l 0)
  go_enter Tryd.func73, Tryd.ntmps73
  go_wp2_with fail
  refine (IndexFunc_ft g lb p eg hp hA hn).mono ?_
  rintro e w1 ⟨rfl, hb⟩
  go_wp2_with fail
  go_ret
  exact ⟨ret_bool (by rw [← HB.out]), hb⟩
set_option maxHeartbeats 1000000 in
theorem areF1 {l : List Ft} {w : World} : FnPredF Tryd.prog 120 #[] (fun f => !okFt f) l w := by
  intro f hf W hb
  have K := Blk.new W 23 [.int .i64 f.code, .string f.which, .string f.what, .string f.look, .string f.side]
  obtain ⟨k0, k1, k2, k3, k4⟩ := blk5 K
  go_enter Tryd.func120, Tryd.ntmps120
  go_wp2_with fail
  refine (IsFeature_impl f _).mono ?_
  rintro e w1 ⟨rfl, hb1⟩
  go_wp2_with fail
  go_ret
  exact ⟨rfl, Below.trans (by repeat (first | exact Below.refl _ _ | refine below_drewN ?_ _ | refine Below.drew ?_ | refine Below.alloc ?_ (by first | omega | (simp; done) | (simp; omega)) _ | refine Below.setCell ?_ (by first | omega | (simp; done) | (simp; omega)) _)) (hb1.mono (by first | omega | (simp; done) | (simp; omega)))⟩
def okFts (l : List Ft) : Bool := decide (l.length ≤ 20) && !(l.any fun f => !okFt f)
theorem areFeatures_any {R : Option Addr} {q cq : Nat} {l : List Ft} {w : World} (hR : Rd w w.heap.size 5 R q (fts l)) (hq : q ≤ 1048576) :
    Calls Tryd.prog 72 #[.slice R q cq] w fun e w' => e = .returned (.bool (okFts l)) ∧ Below w.heap.size w w' := by
  have eg := enters_of (P := Tryd.prog) Tryd.func120 (by kernel_rfl) rfl
  have hl := hR.flen
  by_cases h : q ≤ 20
  · have HV : Hid (okFts l = !(l.any fun f => !okFt f)) := by show _ = _; unfold okFts; rw [hl]; simp [h]
    have hi : (q : Int) ≤ 20 := by omega
    clear hl
    go_enter Tryd.func72, Tryd.ntmps72
    go_wp2_with fail
    refine (ContainsFunc_ft _ _ (fun f => !okFt f) eg areF1 hR hq).mono ?_
    rintro e w1 ⟨rfl, hb⟩
    go_wp2_with fail
    go_ret
    rw [HV.out]
    exact ⟨rfl, hb⟩
  · have HV : Hid (okFts l = false) := by show _ = _; unfold okFts; rw [hl]; simp [h]
    have hi : ¬ (q : Int) ≤ 20 := by omega
    have hd : decide ((q : Int) ≤ 20) = false := by simp; omega
    clear hl
    go_enter Tryd.func72, Tryd.ntmps72
    go_wp2_with fail
    go_ret
    rw [HV.out]
    exact ⟨rfl, Below.refl _ _⟩
theorem okFts_iff {l : List Ft} : okFts l = true ↔ l.length ≤ 20 ∧ ∀ f ∈ l, okFt f = true := by
  unfold okFts
  simp
def famN (f : Ft) : Nat := (famI f.what).toNat
theorem famN_int {f : Ft} (h : okFt f = true) : famI f.what = (famN f : Int) ∧ famN f < 5 := by
  unfold okFt at h
  rw [Bool.and_eq_true] at h
  have h1 := (bigS h.1).2.1
  have h2 := famI_bd f.what
  unfold famN
  omega
def cfE (l : List Ft) (e : Nat) : Int := ((l.filter fun f => famN f == e).length : Nat)
def cfL (l : List Ft) : List Int := [cfE l 0, cfE l 1, cfE l 2, cfE l 3, cfE l 4]
theorem cfE_le (l : List Ft) (e : Nat) : 0 ≤ cfE l e ∧ cfE l e ≤ l.length := by
  unfold cfE
  have := List.length_filter_le (fun f => famN f == e) l
  omega
theorem cfE_snoc (l : List Ft) (f : Ft) (e : Nat) : cfE (l ++ [f]) e = cfE l e + (if famN f = e then 1 else 0) := by
  unfold cfE
  rw [List.filter_append]
  by_cases h : famN f = e
  · simp [h]
  · have : (famN f == e) = false := by simpa using h
    simp [this, h]
theorem cfL_get (l : List Ft) {k : Nat} (hk : k < 5) : (ints (cfL l))[k]? = some (.int .i64 (cfE l k)) := by
  rcases (show k = 0 ∨ k = 1 ∨ k = 2 ∨ k = 3 ∨ k = 4 by omega) with rfl | rfl | rfl | rfl | rfl <;> rfl
theorem cfL_step (l : List Ft) (f : Ft) (hk : famN f < 5) : (ints (cfL l)).set (famN f) (.int .i64 (cfE l (famN f) + 1)) = ints (cfL (l ++ [f])) := by
  unfold cfL ints
  simp only [List.map_cons, List.map_nil, cfE_snoc]
  rcases (show famN f = 0 ∨ famN f = 1 ∨ famN f = 2 ∨ famN f = 3 ∨ famN f = 4 by omega) with h | h | h | h | h <;> rw [h] <;> simp
def ctR (l : List Ft) : List Int := if okFts l = true then cfL l else []
theorem ctR_b (l : List Ft) : (ctR l).length ≤ 1000 := by
  unfold ctR
  split <;> simp [cfL]
theorem make5 (w : World) : (Instr.makeSlice 34 (.int .i64 5) (.int .i64 5)).run Tryd.prog w = .ok (.slice (some ⟨w.heap.size, 0, none⟩) 5 5) (w.alloc (.cells (ints (cfL [])).toArray 3)) := by kernel_rfl
set_option maxRecDepth 100000 in
set_option maxHeartbeats 4000000 in
theorem CountFamilies_impl {R : Option Addr} {q cq : Nat} {l : List Ft} {w : World} (hR : Rd w w.heap.size 5 R q (fts l)) (hq : q ≤ 1048576) (hqc : q ≤ cq) (hs : ∀ r ∈ l, Ft.Ok r) :
    Calls Tryd.prog 16 #[.slice R q cq] w fun e w' => ∃ A cp, e = .returned (.tuple #[.slice A (ctR l).length cp, .bool (okFts l)]) ∧ w'.ownsRow w.heap.size 3 1 (.slice A (ctR l).length cp) (ctR l).length (ints (ctR l)) ∧ Below w.heap.size w w' := by
  have HQ := Lib.hid hR.flen
  clear hs
  have hmk := make5
  cases hok : okFts l
  · have e2 : ctR l = [] := by unfold ctR; rw [hok]; rfl
    rw [e2]; clear e2
    have HOK := Lib.hid hok
    clear hok
    go_enter Tryd.func16, Tryd.ntmps16
    go_wp2_with fail
    refine (areFeatures_any hR hq).mono ?_
    rintro e w1 ⟨rfl, hb⟩
    rw [HOK.out]
    go_wp2_with fail
    go_ret2
    exact ⟨none, 0, rfl, World.ownsRow_nil _ _ _ _, hb⟩
  have E1 := Lib.hid hok
  have E2 := Lib.hid (show ctR l = cfL l by unfold ctR; rw [hok]; rfl)
  obtain ⟨h20, hall⟩ := okFts_iff.1 hok
  have HALL := Lib.hid hall
  have hq20 : q ≤ 20 := by rw [HQ.out] at h20; exact h20
  clear hok h20 hall
  go_enter Tryd.func16, Tryd.ntmps16
  go_wp2_with fail
  refine (areFeatures_any hR hq).mono ?_
  rintro e w1 ⟨rfl, hb⟩
  rw [E1.out]
  have hbs := hb.size
  go_wp2_with fail
  go_loopw [13] (fun i wr => ∃ j : Nat, j ≤ q ∧ i = .int .i64 j ∧ Blk wr w1.heap.size 3 (ints (cfL (l.take j))) ∧ Below w.heap.size w wr) (fun i _ => q - (intOf i).toNat)
  case atStart => exact ⟨0, Nat.zero_le _, rfl, Blk.new w1 3 _, hb.alloc hb.size _⟩
  case round =>
    obtain ⟨j, hj, rfl, B, G⟩ := hrel
    by_cases hlt : j < q
    · obtain ⟨b, off, rfl, hbb, hca⟩ := hR.ft (show 0 < q by omega)
      have kx : j < l.length := by rw [HQ.out]; exact hlt
      obtain ⟨c0, c1, c2, c3, c4⟩ := (hca j kx).below G hbb
      obtain ⟨hf, hf5⟩ := famN_int (HALL.out l[j] (List.getElem_mem kx))
      have HST := Lib.hid (cfL_step (l.take j) l[j] hf5)
      have HTK := Lib.hid (List.take_succ_eq_append_getElem kx)
      generalize hr : l[j] = r at *
      clear hca hr
      obtain ⟨x, hx⟩ : ∃ x, x = cfE (l.take j) (famN r) := ⟨_, rfl⟩
      have hxb := cfE_le (l.take j) (famN r)
      rw [← hx, List.length_take, HQ.out] at hxb
      have hx0 : 0 ≤ x := hxb.1
      have hx1 : x ≤ 20 := by omega
      have HX := Lib.hid hx
      clear hxb hx
      have HF := Lib.hid hf
      clear hf
      generalize hn : famN r = fn at *
      clear hn
      have cell : wr.cell? ⟨w1.heap.size, fn, none⟩ = some (.int .i64 x) := by rw [B.cell, cfL_get _ hf5, ← HX.out]
      have fz := B.frozen fn
      have hlw := B.lt
      go_wp2_with fail
      refine (familyOf_any r.what _).mono ?_
      rintro e w2 ⟨rfl, rfl⟩
      rw [HF.out]
      have B2 := (B.set_ fn (.int .i64 (x + 1))).alloc (.cells #[.int .i64 r.code, .string r.which, .string r.what, .string r.look, .string r.side] 23)
      have G1 : Below w.heap.size w (wr.setCell ⟨w1.heap.size, fn, none⟩ (.int .i64 (x + 1))) := Below.setCell G hbs _
      have G2 := G1.alloc G1.size (.cells #[.int .i64 r.code, .string r.which, .string r.what, .string r.look, .string r.side] 23)
      clear G1
      rw [HX.out, HST.out, ← HX.out, ← HTK.out] at B2
      have HB := Lib.hid B2
      clear B B2
      have hfi : (fn : Int) < 5 := by omega
      have hpx : IntKind.i64.wrap (x + 1) = x + 1 := IntWalk.i64_in _ (by omega)
      go_wp2_with fail
      go_roundw
      case rel => exact ⟨j + 1, by omega, by go_num, HB.out, G2⟩
      case measure => simp [intOf]; omega
    · obtain rfl : j = q := by omega
      have e : l.take j = l := List.take_of_length_le (by rw [HQ.out]; exact Nat.le_refl _)
      rw [e] at B
      have HO := Lib.hid ((Blk.own B (base := w.heap.size) (size := 1) (n := 5) hbs rfl (by simp only [maxLen]; omega)))
      clear e B
      go_wp2_with fail
      go_ret2
      rw [E2.out]
      exact ⟨_, _, rfl, HO.out, G⟩
set_option maxRecDepth 100000 in
set_option maxHeartbeats 4000000 in
theorem CountFamilies_spec {R : Option Addr} {q cq : Nat} {l : List Ft} {w : World} (hR : Rd w w.heap.size 5 R q (fts l)) (hq : q ≤ 1048576) (hqc : q ≤ cq) (hs : ∀ r ∈ l, Ft.Ok r) :
    Calls Tryd.prog 17 #[.slice R q cq] w fun e w' => ∃ A cp, e = .returned (.tuple #[.slice A (ctR l).length cp, .bool (okFts l)]) ∧ w'.ownsRow w.heap.size 3 1 (.slice A (ctR l).length cp) (ctR l).length (ints (ctR l)) ∧ Below w.heap.size w w' := by
  have HQ := Lib.hid hR.flen
  clear hs
  have hmk := make5
  have G0 : Below w.heap.size w (w.alloc (.cells (ints (cfL [])).toArray 3)) := (by repeat (first | exact Below.refl _ _ | refine below_drewN ?_ _ | refine Below.drew ?_ | refine Below.alloc ?_ (by first | omega | (simp; done) | (simp; omega)) _ | refine Below.setCell ?_ (by first | omega | (simp; done) | (simp; omega)) _))
  by_cases hq20 : 20 < q
  · have hok : okFts l = false := by unfold okFts; rw [HQ.out, show decide (q ≤ 20) = false by simp; omega]; rfl
    have e2 : ctR l = [] := by unfold ctR; rw [hok]; rfl
    rw [hok, e2]; clear e2 hok
    have hi : (20 : Int) < (q : Int) := by omega
    go_enter Tryd.func17, Tryd.ntmps17
    go_wp2_with fail
    go_ret2
    have Q := World.ownsRow_lit (e := 3) (size := 1) (w.alloc (.cells (ints (cfL [])).toArray 3)) #[] 0 G0.size (by simp) rfl
    rw [World.size_alloc] at Q
    exact ⟨_, 0, rfl, Q, G0.alloc G0.size _⟩
  have hi : ¬ (20 : Int) < (q : Int) := by omega
  have hid : decide ((20 : Int) < (q : Int)) = false := by simp; omega
  have hz := Blk.new w 3 (ints (cfL []))
  go_enter Tryd.func17, Tryd.ntmps17
  go_wp2_with fail
  go_loopw [5] (fun i wr => ∃ j : Nat, j ≤ q ∧ i = .int .i64 j ∧ Hid (∀ (e : Nat) (he : e < l.length), e < j → okFt l[e] = true) ∧ Blk wr w.heap.size 3 (ints (cfL (l.take j))) ∧ Below w.heap.size w wr) (fun i _ => q - (intOf i).toNat)
  case atStart => exact ⟨0, Nat.zero_le _, rfl, (fun e _ h => absurd h (by omega)), hz, G0⟩
  clear hz G0
  case round =>
    obtain ⟨j, hj, rfl, HN, B, G⟩ := hrel
    by_cases hlt : j < q
    · obtain ⟨b, off, rfl, hbb, hca⟩ := hR.ft (show 0 < q by omega)
      have kx : j < l.length := by rw [HQ.out]; exact hlt
      have CK := (hca j kx)
      obtain ⟨c0, c1, c2, c3, c4⟩ := CK.below G hbb
      have HMEM := Lib.hid (List.getElem_mem kx)
      have HTK := Lib.hid (List.take_succ_eq_append_getElem kx)
      have HSTP : Hid (∀ h : famN l[j] < 5, (ints (cfL (l.take j))).set (famN l[j]) (.int .i64 (cfE (l.take j) (famN l[j]) + 1)) = ints (cfL (l.take j ++ [l[j]]))) := (show ∀ _, _ from fun h => cfL_step (l.take j) l[j] h)
      generalize hr : l[j] = r at *
      have HR := Lib.hid hr
      clear hca hr
      cases hof : okFt r
      · have HV : okFts l = false := by
          cases h : okFts l
          · rfl
          · have := (okFts_iff.1 h).2 r HMEM.out
            rw [hof] at this; cases this
        have e2 : ctR l = [] := by unfold ctR; rw [HV]; rfl
        have E1 := Lib.hid HV
        have E2 := Lib.hid e2
        have HO := Lib.hid hof
        clear HV e2 hof
        go_wp2_with fail
        refine (l3One_any r _).mono ?_
        rintro e w2 ⟨rfl, hb⟩
        rw [HO.out]
        replace G := G.trans (hb.mono G.size)
        clear c0 c1 c2 c3 c4 hb
        go_wp2_with fail
        go_ret2
        rw [E1.out, E2.out]
        exact ⟨_, 0, rfl, World.ownsRow_lit _ #[] 0 G.size (by simp) rfl, G.alloc G.size _⟩
      · obtain ⟨hf, hf5⟩ := famN_int hof
        have HST := Lib.hid (HSTP.out hf5)
        have HO := Lib.hid hof
        clear hof HSTP
        obtain ⟨x, hx⟩ : ∃ x, x = cfE (l.take j) (famN r) := ⟨_, rfl⟩
        have hxb := cfE_le (l.take j) (famN r)
        rw [← hx, List.length_take, HQ.out] at hxb
        have hx0 : 0 ≤ x := hxb.1
        have hx1 : x ≤ 20 := by omega
        have HX := Lib.hid hx
        clear hxb hx
        have HF := Lib.hid hf
        clear hf
        generalize hn : famN r = fn at *
        clear hn
        go_wp2_with fail
        refine (l3One_any r _).mono ?_
        rintro e w2 ⟨rfl, hb⟩
        rw [HO.out]
        replace B := B.on hb
        replace G := G.trans (hb.mono G.size)
        clear c0 c1 c2 c3 c4 hb
        obtain ⟨c0, c1, c2, c3, c4⟩ := CK.below G hbb
        go_wp2_with fail
        refine (l3Family_any r.what _).mono ?_
        rintro e w3 ⟨rfl, hb⟩
        rw [HF.out]
        replace B := B.on hb
        replace G := G.trans (hb.mono G.size)
        clear c0 c1 c2 c3 c4 hb
        have cell : w3.cell? ⟨w.heap.size, fn, none⟩ = some (.int .i64 x) := by rw [B.cell, cfL_get _ hf5, ← HX.out]
        have fz := B.frozen fn
        have hlw := B.lt
        have B2 := B.set_ fn (.int .i64 (x + 1))
        have G2 : Below w.heap.size w (w3.setCell ⟨w.heap.size, fn, none⟩ (.int .i64 (x + 1))) := Below.setCell G (Nat.le_refl _) _
        rw [HX.out, HST.out, ← HX.out, ← HTK.out] at B2
        have HB := Lib.hid B2
        clear B B2
        have hfi : (fn : Int) < 5 := by omega
        have hpx : IntKind.i64.wrap (x + 1) = x + 1 := IntWalk.i64_in _ (by omega)
        go_wp2_with fail
        go_roundw
        case rel => exact ⟨j + 1, by omega, by go_num, (show ∀ (e : Nat) (he : e < l.length), e < j + 1 → okFt l[e] = true from fun e he hej => by
          by_cases ee : e = j
          · subst ee; rw [HR.out]; exact HO.out
          · exact HN.out e he (by omega)), HB.out, G2⟩
        case measure => simp [intOf]; omega
    · obtain rfl : j = q := by omega
      have e : l.take j = l := List.take_of_length_le (by rw [HQ.out]; exact Nat.le_refl _)
      rw [e] at B
      have hok : okFts l = true := okFts_iff.2 ⟨by rw [HQ.out]; omega, fun f hf => by
        obtain ⟨i, hi, rfl⟩ := List.mem_iff_getElem.1 hf
        exact HN.out i hi (by rw [HQ.out] at hi; exact hi)⟩
      have E1 := Lib.hid hok
      have E2 := Lib.hid (show ctR l = cfL l by unfold ctR; rw [hok]; rfl)
      clear hok
      have HO := Lib.hid ((Blk.own B (base := w.heap.size) (size := 1) (n := 5) (Nat.le_refl _) rfl (by simp only [maxLen]; omega)))
      clear e B
      go_wp2_with fail
      go_ret2
      rw [E1.out, E2.out]
      exact ⟨_, _, rfl, HO.out, G⟩
end Go.Proofs.YtmmpcchjalgokaaDoor
