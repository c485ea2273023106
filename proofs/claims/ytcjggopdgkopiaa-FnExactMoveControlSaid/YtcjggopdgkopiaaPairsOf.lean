/- Contract: the pairs of codes of controls that are chosen. -/
import Derived.Test.YtcjggopdgkopiaaPairs
import Derived.Test.YtcjggopdgkopiaaCtlFn
import Derived.Deep.AppendLies
namespace Go.Proofs.Ytcjggopdgkopiaa
set_option linter.unusedVariables false
set_option linter.unusedSimpArgs false
open Go.RowKit
def ctAt (l : List Ct) (i : Nat) : Ct := l.getD i default
def pr1 (l : List Ct) (ch : Ct → Ct → Bool) (i e : Nat) : List Ct := if ch (ctAt l i) (ctAt l (i + 1 + e)) = true then [⟨(ctAt l i).code, (ctAt l (i + 1 + e)).code⟩] else []
def prRow (l : List Ct) (ch : Ct → Ct → Bool) (i : Nat) : Nat → List Ct
  | 0 => []
  | e + 1 => prRow l ch i e ++ pr1 l ch i e
def prAll (l : List Ct) (ch : Ct → Ct → Bool) : Nat → List Ct
  | 0 => []
  | i + 1 => prAll l ch i ++ prRow l ch i (l.length - (i + 1))
theorem prRow_len (l : List Ct) (ch : Ct → Ct → Bool) (i : Nat) : ∀ e, (prRow l ch i e).length ≤ e := by
  intro e
  induction e with
  | zero => simp [prRow]
  | succ e ih => rw [prRow, List.length_append, pr1]; split <;> simp <;> omega
theorem prAll_len (l : List Ct) (ch : Ct → Ct → Bool) : ∀ i, (prAll l ch i).length ≤ i * l.length := by
  intro i
  induction i with
  | zero => simp [prAll]
  | succ i ih => have := prRow_len l ch i (l.length - (i + 1)); rw [prAll, List.length_append, Nat.succ_mul]; omega
def prSo (l : List Ct) (ch : Ct → Ct → Bool) (i e : Nat) : List Ct := prAll l ch i ++ prRow l ch i e
theorem prSo_zero (l : List Ct) (ch : Ct → Ct → Bool) (i : Nat) : prSo l ch i 0 = prAll l ch i := by simp [prSo, prRow]
theorem prSo_succ (l : List Ct) (ch : Ct → Ct → Bool) (i e : Nat) : prSo l ch i (e + 1) = prSo l ch i e ++ pr1 l ch i e := by rw [prSo, prSo, prRow, List.append_assoc]
theorem prSo_row {l : List Ct} {ch : Ct → Ct → Bool} {i e : Nat} (h : e = l.length - (i + 1)) : prSo l ch i e = prAll l ch (i + 1) := by rw [h]; rfl
theorem prSo_len (l : List Ct) (ch : Ct → Ct → Bool) {i e : Nat} (hl : l.length ≤ 10) (hi : i ≤ l.length) (he : e ≤ l.length) : (prSo l ch i e).length ≤ 110 := by
  have h1 := prAll_len l ch i
  have h2 := prRow_len l ch i e
  have h3 := Nat.mul_le_mul (show i ≤ 10 by omega) hl
  rw [prSo, List.length_append]; omega
theorem cts_snoc (l : List Ct) (a b : Int) : cts l ++ [Value.int .i64 a, Value.int .i64 b] = cts (l ++ [⟨a, b⟩]) := by simp [cts, Ct.cells]
theorem ctAt_get {l : List Ct} {i : Nat} (h : i < l.length) : ctAt l i = l[i] := by simp [ctAt, List.getD, h]
theorem pair_info : (Try.prog.info? 70).map (fun i => (i.zero, i.size, i.bytes)) = some (some (.agg #[.int .i64 0, .int .i64 0]), 2, 16) := by kernel_rfl
theorem cells_two (w : World) (t : TypeId) (a b : Value) : ∀ (j : Nat) (u : Value), [a, b][j]? = some u → (w.alloc (.cells #[a, b] t)).cell? ((⟨w.heap.size, 0, none⟩ : Addr).add j) = some u := by
  intro j u hu
  rw [add_none, Nat.zero_add]
  exact ((Blk.new w t [a, b]).cell j).trans hu
/-- What is asked of a choice on the Controls of a list. -/
def FnChL (P : Program) (g : Nat) (lb : Array Value) (f : Ct → Ct → Bool) (l : List Ct) (w : World) : Prop :=
  ∀ x ∈ l, ∀ y ∈ l, ∀ (W : World), Below w.heap.size w W → Calls P g (#[.agg #[.int .i64 x.code, .int .i64 x.cell], .agg #[.int .i64 y.code, .int .i64 y.cell]] ++ lb) W fun e w' => e = .returned (.bool (f x y)) ∧ Below W.heap.size W w'
set_option maxRecDepth 100000 in
set_option maxHeartbeats 2000000 in
theorem pairsOf_any {g : Nat} {lb : Array Value} {ch : Ct → Ct → Bool} {R : Option Addr} {q cq : Nat} {l : List Ct} {w : World} (eg : ∀ args w, (callFunc g args).run Try.prog w = .ok (.enter g args) w) (hp : FnChL Try.prog g lb ch l w) (hR : Rd w w.heap.size 2 R q (cts l)) (hq : q ≤ 10) (hqc : q ≤ cq) :
    Calls Try.prog 63 #[.slice R q cq, .func (.func g) #[] lb] w fun e w' => ∃ A cp, e = .returned (.slice A (prAll l ch l.length).length cp) ∧ w'.ownsRow w.heap.size 70 2 (.slice A (prAll l ch l.length).length cp) (prAll l ch l.length).length (cts (prAll l ch l.length)) ∧ Below w.heap.size w w' := by
  have HX := Lib.hid hR.clen
  have HP := Lib.hid hp
  obtain ⟨i0, hi0, hz0, hz1, hz2⟩ := info_parts pair_info
  clear hp
  go_enter Try.func63, Try.ntmps63
  go_wp2_with fail
  go_loopw [5, 13] (fun o i wr => ∃ j : Nat, j ≤ q ∧ i = .int .i64 j ∧ wr.ownsRow w.heap.size 70 2 o (prSo l ch j 0).length (cts (prSo l ch j 0)) ∧ Below w.heap.size w wr) (fun _ i _ => q - (intOf i).toNat)
  case atStart =>
    refine ⟨0, Nat.zero_le _, rfl, ?_, (by repeat (first | exact Below.refl _ _ | refine below_drewN ?_ _ | refine Below.drew ?_ | refine Below.alloc ?_ (by first | omega | (simp; done) | (simp; omega)) _ | refine Below.setCell ?_ (by first | omega | (simp; done) | (simp; omega)) _))⟩
    have := World.ownsRow_lit (base := w.heap.size) (size := 2) (e := 70) w #[] 0 (Nat.le_refl _) (by simp) rfl
    simpa [cts, prSo, prAll, prRow] using this
  case round =>
    obtain ⟨j, hj, rfl, hown, G⟩ := hrel
    by_cases hlt : j < q
    · obtain ⟨b, off, rfl, hbb, hca⟩ := hR.ct (show 0 < q by omega)
      have HCA := Lib.hid hca
      have kx : j < l.length := by rw [HX.out]; exact hlt
      have CJ := Lib.hid (hca j kx)
      have c1 := ((bcell G).1 b (off + j * 2) hbb).trans (hca j kx).1
      have c2 := ((bcell G).1 b (off + j * 2 + 1) hbb).trans (hca j kx).2
      have p1 : IntKind.i64.wrap ((j : Int) + 1) = (j : Int) + 1 := IntWalk.i64_in _ (by omega)
      have p2 : ((j : Int) + 1).toNat = j + 1 := by omega
      have p3 : (j : Int) + 1 ≤ (q : Int) := by omega
      have p4 : j + 1 ≤ q := by omega
      have p5 : j + 1 ≤ cq := by omega
      have p6 : q ≤ cq := hqc
      clear hca
      have ko : (prSo l ch j 0).length ≤ 110 := prSo_len l ch (by have := HX.out; omega) (by omega) (by omega)
      by_cases hc : cq = j + 1
      · obtain rfl : q = j + 1 := by omega
        obtain rfl : cq = j + 1 := hc
        have HL0 : Hid (prSo l ch j 0 = prSo l ch (j + 1) 0) := by
          show _ = _
          rw [prSo_row (by rw [HX.out]; omega), prSo_zero]
        go_wp2_with fail
        go_loopw [5, 23] (fun o i wx => i = .int .i64 0 ∧ wx.ownsRow w.heap.size 70 2 o (prSo l ch j 0).length (cts (prSo l ch j 0)) ∧ Below w.heap.size w wx) (fun _ _ _ => 0)
        case atStart => exact ⟨rfl, (own_below hown (Below.alloc (Below.refl _ _) (Nat.le_refl _) _)), G.alloc G.size _⟩
        case round =>
          obtain ⟨rfl, hown, G⟩ := hrel
          go_wp2_with fail
          go_roundw
          case rel => exact ⟨j + 1, by omega, by go_num, by rw [← HL0.out]; exact hown, G⟩
          case measure => simp [intOf]
      · have hc2 : j + 1 < cq := by omega
        obtain ⟨ga, hga⟩ : ∃ ga, ga = wr.heap.size := ⟨_, rfl⟩
        have C0 := Blk.new wr 54 [.int .i64 l[j].code, .int .i64 l[j].cell]
        rw [← hga] at C0
        have hgw : w.heap.size ≤ ga := by rw [hga]; exact G.size
        go_wp2_with fail
        rw [← hga]
        go_loopw [5, 23] (fun o i wx => ∃ e : Nat, e ≤ q - (j + 1) ∧ i = .int .i64 e ∧ wx.ownsRow w.heap.size 70 2 o (prSo l ch j e).length (cts (prSo l ch j e)) ∧ (∀ k, Value.ownBlock o = some k → k ≠ ga) ∧ Blk wx ga 54 [.int .i64 l[j].code, .int .i64 l[j].cell] ∧ Below w.heap.size w wx) (fun _ i _ => q - (intOf i).toNat)
        case atStart => exact ⟨0, Nat.zero_le _, rfl, own_below hown (Below.alloc (Below.refl _ _) (Nat.le_refl _) _), (fun k hk => by have := (hown.lt k hk).2; omega), C0, G.alloc G.size _⟩
        clear hown G C0 c1 c2 hga
        case round =>
          obtain ⟨e, he, rfl, hown, hne, C, G⟩ := hrel
          have ltC := C.lt
          have c70 : wr.cell? ⟨ga, 0, none⟩ = some (.int .i64 l[j].code) := C.cell 0
          have c71 : wr.cell? ⟨ga, 1, none⟩ = some (.int .i64 l[j].cell) := C.cell 1
          by_cases hle : e < q - (j + 1)
          · have kx2 : j + 1 + e < l.length := by rw [HX.out]; omega
            have CE9 := HCA.out (j + 1 + e) kx2
            rw [show off + (j + 1 + e) * 2 = off + (j + 1) * 2 + e * 2 by omega] at CE9
            have d1 := ((bcell G).1 b (off + (j + 1) * 2 + e * 2) hbb).trans CE9.1
            have d2 := ((bcell G).1 b (off + (j + 1) * 2 + e * 2 + 1) hbb).trans CE9.2
            have ie : (e : Int) < ((q - (j + 1) : Nat) : Int) := by omega
            have HC := Lib.hid (fun (W : World) (hW : Below w.heap.size w W) => HP.out l[j] (List.getElem_mem kx) l[j + 1 + e] (List.getElem_mem kx2) W hW)
            have HA := Lib.hid (ctAt_get kx)
            have HB := Lib.hid (ctAt_get kx2)
            have ko2 : (prSo l ch j e).length ≤ 110 := prSo_len l ch (by have := HX.out; omega) (by omega) (by omega)
            generalize hle2 : l[j + 1 + e] = le at *
            clear CE9 hle2
            cases hch : ch l[j] le
            · have HS : Hid (prSo l ch j (e + 1) = prSo l ch j e) := by show _ = _; rw [prSo_succ, pr1, HA.out, HB.out, hch]; simp
              have HCH := Lib.hid hch
              clear hch
              go_wp2_with fail
              refine (HC.out _ (G.alloc G.size _)).mono ?_
              rintro e' w2 ⟨rfl, hb1⟩
              rw [HCH.out]
              have C2 := (C.alloc (.cells #[.int .i64 le.code, .int .i64 le.cell] 54)).on hb1
              have o2 := own_below (own_below hown (Below.alloc (Below.refl _ _) (Nat.le_refl _) (.cells #[.int .i64 le.code, .int .i64 le.cell] 54))) hb1
              have G2 := (G.alloc G.size (.cells #[.int .i64 le.code, .int .i64 le.cell] 54)).trans (hb1.mono (G.alloc G.size _).size)
              clear hown G C c70 c71 d1 d2 hb1
              go_wp2_with fail
              go_roundw
              case rel => exact ⟨e + 1, by omega, by go_num, by rw [HS.out]; exact o2, hne, C2, G2⟩
              case measure => simp [intOf]; omega
            · have HS : Hid (prSo l ch j (e + 1) = prSo l ch j e ++ [⟨l[j].code, le.code⟩]) := by show _ = _; rw [prSo_succ, pr1, HA.out, HB.out, hch]; simp
              have HCH := Lib.hid hch
              clear hch
              go_wp2_with fail
              refine (HC.out _ (G.alloc G.size _)).mono ?_
              rintro e' w2 ⟨rfl, hb1⟩
              rw [HCH.out]
              have C2 := (C.alloc (.cells #[.int .i64 le.code, .int .i64 le.cell] 54)).on hb1
              have D2 := (Blk.new wr 54 [.int .i64 le.code, .int .i64 le.cell]).on hb1
              have o2 := own_below (own_below hown (Below.alloc (Below.refl _ _) (Nat.le_refl _) (.cells #[.int .i64 le.code, .int .i64 le.cell] 54))) hb1
              have G2 := (G.alloc G.size (.cells #[.int .i64 le.code, .int .i64 le.cell] 54)).trans (hb1.mono (G.alloc G.size _).size)
              clear hown G C c70 c71 d1 d2 hb1
              have c70 : w2.cell? ⟨ga, 0, none⟩ = some (.int .i64 l[j].code) := C2.cell 0
              have c90 : w2.cell? ⟨wr.heap.size, 0, none⟩ = some (.int .i64 le.code) := D2.cell 0
              have ltC := C2.lt
              have ltD := D2.lt
              go_wp2_with (at_builtin; refine wpList_append_lies _ rfl _ _ 40 rfl w.heap.size 70 i0 (.agg #[.int .i64 0, .int .i64 0]) 2 16 Try.underlying40 hi0 hz0 hz1 hz2 rfl (by decide) _ _ _ rfl (o2.alloc _) ⟨w2.heap.size, 0, none⟩ 1 1 [.int .i64 l[j].code, .int .i64 le.code] rfl rfl ?c1 ?c2 (by decide) ?c3 ?c4 ?c5 _ rfl ?_)
              case c1 => exact cells_two w2 _ _ _
              case c2 => intro u hu; simp at hu; rcases hu with rfl | rfl <;> rfl
              case c3 => simp only [maxLen]; omega
              case c4 => omega
              case c5 => have := G2.size; simp; omega
              intro g9 cp9 w9 own1 grow1 hat hlt9
              have bel1 : Below w.heap.size w w9 := (G2.alloc G2.size _).grown grow1 (by have := G2.size; simp; omega) (fun k hk => (o2.lt k hk).1)
              rw [cts_snoc] at own1
              have hne9 : ∀ k, Value.ownBlock (.slice (some ⟨g9, 0, none⟩) ((prSo l ch j e).length + 1) cp9) = some k → k ≠ ga := by
                intro k hk
                have hk2 : g9 = k := by simpa [Value.ownBlock] using hk
                subst hk2
                rcases hat with e1 | e1
                · exact hne _ e1
                · omega
              have C9 := (C2.alloc (.cells #[.int .i64 l[j].code, .int .i64 le.code] 70)).grown grow1 (fun h => hne _ h.symm rfl)
              clear C2 D2 o2 G2 grow1 hat
              go_wp2_with fail
              go_roundw
              case rel => exact ⟨e + 1, by omega, by go_num, by rw [HS.out, List.length_append]; exact own1, hne9, C9, bel1⟩
              case measure => simp [intOf]; omega
          · have hee : e = q - (j + 1) := by omega
            have HL0 : Hid (prSo l ch j e = prSo l ch (j + 1) 0) := by
              show _ = _
              rw [prSo_row (by rw [HX.out]; exact hee), prSo_zero]
            have ie : ¬ (e : Int) < ((q - (j + 1) : Nat) : Int) := by omega
            have HE := Lib.hid hee
            clear hee
            go_wp2_with fail
            go_roundw
            case rel => exact ⟨j + 1, by omega, by go_num, by rw [← HL0.out]; exact hown, G⟩
            case measure => simp [intOf]; omega
    · have hjq : j = q := by omega
      have HJ := Lib.hid hjq
      clear hjq
      obtain ⟨A', c', rfl⟩ := own_form hown
      go_wp2_with fail
      go_ret
      rw [HX.out, ← HJ.out, ← prSo_zero]
      exact ⟨A', c', rfl, hown, G⟩
end Go.Proofs.Ytcjggopdgkopiaa
