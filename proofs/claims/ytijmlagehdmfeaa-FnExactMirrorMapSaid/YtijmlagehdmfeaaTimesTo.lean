/- Contracts: the least times of all cells to one, by the program. -/
import Derived.Test.YtijmlagehdmfeaaTimes
import Derived.Test.YtijmlagehdmfeaaNext
import Derived.Test.YtijmlagehdmfeaaRg
namespace Go.Proofs.Ytijmlagehdmfeaa
set_option linter.unusedVariables false
set_option linter.unusedSimpArgs false
open Go.RowKit
def enc (x : Int) : Int := if x < 0 then 1073741824 else x
def encL (L : List Int) : List Int := L.map enc
theorem encL_len (L : List Int) : (encL L).length = L.length := by simp [encL]
theorem encL_set (L : List Int) (i : Nat) (t : Int) (ht : 0 ≤ t) : encL (L.set i t) = (encL L).set i t := by
  unfold encL
  rw [List.map_set, show enc t = t by unfold enc; rw [if_neg (by omega)]]
theorem encL_get {L : List Int} {i : Nat} (hi : i < L.length) : (ints (encL L))[i]? = some (.int .i64 (enc (at_ L i))) := by
  rw [at_get hi]; simp [ints, encL, hi]
theorem ints_set (L : List Int) (i : Nat) (t : Int) : (ints L).set i (.int .i64 t) = ints (L.set i t) := by simp [ints, List.map_set]
theorem Ch.set {g i : Nat} {u : Value} (w : World) : Ch (fun k => k = g) w (w.setCell ⟨g, i, none⟩ u) :=
  ⟨rfl, rfl, rfl, by simp, fun k _ hne => Below.heap_setCell w ⟨g, i, none⟩ u k hne⟩
/-- The weight of a block of times. -/
def wz (v : Value) : Nat := match v with | .int _ x => if x < 0 ∨ 1073741824 ≤ x then 2000 else x.toNat | _ => 0
def mW (w : World) (g : Nat) : Nat := match w.heap[g]? with | some (.cells cs _ _) => (cs.toList.map wz).sum | _ => 0
theorem mW_blk {w : World} {g : Nat} {t : TypeId} {cs : List Value} (h : Blk w g t cs) : mW w g = (cs.map wz).sum := by
  unfold mW; rw [h]
theorem wz_enc {x : Int} (h : x ≤ 1440) : wz (.int .i64 (enc x)) = wt x := by
  unfold wz enc wt
  dsimp only
  by_cases e : x < 0
  · rw [if_pos e, if_pos e, if_pos (by omega)]
  · rw [if_neg e, if_neg e, if_neg (by omega)]
theorem wz_encL {L : List Int} (h : ∀ x ∈ L, x ≤ 1440) : ((ints (encL L)).map wz).sum = W L := by
  unfold W sumF ints encL
  induction L with
  | nil => rfl
  | cons x L ih =>
    simp only [List.map_cons, List.sum_cons, List.map_map] at ih ⊢
    rw [wz_enc (h x (by simp)), ih (fun y hy => h y (by simp [hy]))]
theorem Inv.all {m : Mp} {b : Nat} {L : List Int} (V : Valid m) (I : Inv m b L) : ∀ x ∈ L, x ≤ 1440 := by
  intro x hx
  obtain ⟨i, hi, rfl⟩ := List.getElem_of_mem hx
  have h1 := I.hi i hi
  rw [at_get hi] at h1
  have h2 := cnt_le L
  have h3 := I.len
  have := V.n36
  omega
def boolN (v : Value) : Nat := match v with | .bool true => 1 | _ => 0
theorem fires_enc {m : Mp} {b i n : Nat} {L : List Int} (V : Valid m) (I : Inv m b L) (hi : i < m.co.length) (hn : n ∈ nextN m i) :
    (decide (enc (at_ L n) < 1073741824) && decide (enc (at_ L n) + stepV m i n < enc (at_ L i))) = fires m i L n := by
  have hnl : n < L.length := by rw [I.len]; exact (mem_nextN.1 hn).1
  have hil : i < L.length := by rw [I.len]; exact hi
  have a1 := I.all V _ (List.getElem_mem hnl)
  have a2 := I.all V _ (List.getElem_mem hil)
  rw [← at_get hnl] at a1
  rw [← at_get hil] at a2
  have s := (V.step_bd i n).2
  have s1 := step_pos V hn
  have l1 := I.lo n hnl
  have l2 := I.lo i hil
  unfold fires enc
  rw [Bool.eq_iff_iff]
  simp only [Bool.and_eq_true, Bool.or_eq_true, decide_eq_true_eq]
  split <;> split <;> omega
theorem init_enc (m : Mp) (b : Nat) : (List.replicate m.co.length (Value.int .i64 1073741824)).set b (.int .i64 0) = ints (encL (initL m b)) := by
  simp [initL, encL, ints, enc, List.map_set]
theorem cellsNextTo_n {m : Mp} {v : Value} {c : Nat} {w : World} (hv : MapIn w m v) (V : Valid m) (hc2 : c < m.co.length) :
    Calls Try.prog 75 #[v, .int .i64 (c : Int)] w fun e w' => ∃ A cp, e = .returned (.slice A (nextN m c).length cp) ∧ w'.ownsRow w.heap.size 3 1 (.slice A (nextN m c).length cp) (nextN m c).length (ints (cast (nextN m c))) ∧ Below w.heap.size w w' := by
  have e1 : nextI m (c : Int) = cast (nextN m c) := by simp [nextI]
  have e2 : (nextI m (c : Int)).length = (nextN m c).length := by rw [e1, cast_len]
  have := cellsNextTo_any hv V (c := (c : Int)) (by omega) (by omega)
  rw [e2, e1] at this
  exact this
/-- How the flag and the times go together. -/
def Turned (L0 L : List Int) (a : Bool) : Prop := (a = false ∧ L = L0) ∨ (a = true ∧ W L < W L0)
theorem Turned.step {m : Mp} {b i n : Nat} {L0 L : List Int} {a : Bool} (V : Valid m) (h : Turned L0 L a) (I : Inv m b L) (hi : i < m.co.length) (hn : n ∈ nextN m i) (hf : fires m i L n = true) : Turned L0 (relax m i L n) true := by
  refine Or.inr ⟨rfl, ?_⟩
  have h2 : W (relax m i L n) < W L := by
    rcases (relax_inv V I hi hn).2 with e | e
    · exfalso
      unfold relax at e
      rw [if_pos hf] at e
      have hil : i < L.length := by rw [I.len]; exact hi
      have := congrArg (fun L => at_ L i) e
      simp only [at_set _ hil, if_pos] at this
      unfold fires at hf
      simp only [Bool.and_eq_true, Bool.or_eq_true, decide_eq_true_eq] at hf
      have s1 := step_pos V hn
      rcases hf.2 with h | h <;> omega
    · exact e
  rcases h with ⟨_, rfl⟩ | ⟨_, h⟩
  · exact h2
  · omega
def Head (m : Mp) (b r : Nat) (a : Bool) : Prop := (a = true ∧ r + W (itL m b r) ≤ W (initL m b)) ∨ (a = false ∧ scan m (itL m b r) = itL m b r ∧ r ≤ W (initL m b) + 1)
theorem Head.next {m : Mp} {b r : Nat} {a : Bool} (h : Head m b r true) (t : Turned (itL m b r) (itL m b (r + 1)) a) : Head m b (r + 1) a := by
  rcases h with ⟨_, h⟩ | ⟨h, _⟩
  · rcases t with ⟨rfl, t⟩ | ⟨rfl, t⟩
    · refine Or.inr ⟨rfl, ?_, by omega⟩
      show scan m (itL m b (r + 1)) = itL m b (r + 1)
      have e : scan m (itL m b r) = itL m b r := t
      rw [t, e]
    · exact Or.inl ⟨rfl, by omega⟩
  · cases h
theorem Head.out {m : Mp} {b r : Nat} (h : Head m b r false) : itL m b r = fin m b := by
  rcases h with ⟨h, _⟩ | ⟨_, h1, h2⟩
  · cases h
  · exact fin_of h1 h2
theorem fold_succ (m : Mp) (L : List Int) (j : Nat) : (List.range (j + 1)).foldl (row m) L = row m ((List.range j).foldl (row m) L) j := by
  rw [List.range_succ, List.foldl_append]; rfl
theorem fold_take (m : Mp) (i : Nat) (L : List Int) (l : List Nat) (q : Nat) (hq : q < l.length) : (l.take (q + 1)).foldl (relax m i) L = relax m i ((l.take q).foldl (relax m i) L) l[q] := by
  rw [List.take_succ_eq_append_getElem hq, List.foldl_append]; rfl
end Go.Proofs.Ytijmlagehdmfeaa
