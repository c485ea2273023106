/- What holds while the program seeks the open parts. -/
import Derived.Test.YtdjdjceemfaigaaOps
import Derived.Deep.OwnRows
import Derived.Deep.DeepCutAuto
namespace Go.Proofs.Ytdjdjceemfaigaa
set_option linter.unusedVariables false
set_option linter.unusedSimpArgs false
open Go.RowKit
def bools (S : List Bool) : List Value := S.map Value.bool
theorem bool_info : (Try.prog.info? 4).map (fun i => (i.zero, i.size, i.bytes)) = some (some (.bool false), 1, 1) := by kernel_rfl
theorem made_eq (z : Value) (k : Nat) : madeCells #[z] k = (List.replicate k z).toArray := by
  apply Array.ext
  · simp [madeCells]
  · intro i h1 h2
    simp [madeCells, Nat.mod_one]
set_option maxRecDepth 100000 in
theorem made_bools {k : Nat} (hk : k ≤ 1000) (w : World) :
    (Instr.makeSlice 40 (.int .i64 (k : Int)) (.int .i64 (k : Int))).run Try.prog w = .ok (.slice (some ⟨w.heap.size, 0, none⟩) k k) (w.alloc (.cells (bools (List.replicate k false)).toArray 4)) := by
  have h := run_make_row' (P := Try.prog) 40 4 (.bool false) 1 (by kernel_rfl) bool_info rfl .i64 .i64 k (by omega) (by omega) w
  have e : madeCells #[Value.bool false] k = (bools (List.replicate k false)).toArray := by
    rw [made_eq]
    unfold bools
    rw [List.map_replicate]
  rwa [e] at h
def SeenOk (m : Mp) (j k : Nat) (S : List Bool) (L : List Nat) : Prop := S.length = k ∧ ∀ i, i < k → (S[i]? = some true ↔ Done m j i ∨ i ∈ L)
def LstOk (m : Mp) (j : Nat) (L : List Nat) : Prop := L.Nodup ∧ j ∈ L ∧ ∀ y ∈ L, Reach m j y
def ClsOk (m : Mp) (L : List Nat) (a : Nat) : Prop := ∀ y ∈ L.take a, ∀ x ∈ nextN m y, x ∈ L
theorem SeenOk.mark {m : Mp} {j k x : Nat} {S : List Bool} {L : List Nat} (h : SeenOk m j k S L) (hx : x < k) : SeenOk m j k (S.set x true) (L ++ [x]) := by
  refine ⟨by rw [List.length_set]; exact h.1, fun i hi => ?_⟩
  rw [List.getElem?_set]
  by_cases e : x = i
  · subst e
    rw [if_pos rfl, if_pos (by rw [h.1]; exact hi)]
    simp
  · rw [if_neg e, h.2 i hi, List.mem_append, List.mem_singleton]
    constructor
    · rintro (h1 | h1)
      · exact .inl h1
      · exact .inr (.inl h1)
    · rintro (h1 | h1 | h1)
      · exact .inl h1
      · exact .inr h1
      · exact absurd h1.symm e
theorem LstOk.len {m : Mp} {j : Nat} {L : List Nat} (hc : OpC m j) (h : LstOk m j L) : 1 ≤ L.length ∧ L.length ≤ m.co.length :=
  ⟨List.length_pos_of_mem h.2.1, nodup_le _ h.1 fun x hx => ((h.2.2 x hx).good hc).1⟩
theorem LstOk.push {m : Mp} {j x y : Nat} {L : List Nat} (h : LstOk m j L) (hy : y ∈ L) (hx : x ∈ nextN m y) (hn : x ∉ L) : LstOk m j (L ++ [x]) := by
  refine ⟨?_, List.mem_append_left _ h.2.1, fun z hz => ?_⟩
  · rw [List.nodup_append]
    refine ⟨h.1, by simp, ?_⟩
    intro a ha b hb e
    have e2 : b = x := by simpa using hb
    exact hn (by rw [← e2, ← e]; exact ha)
  · rcases List.mem_append.1 hz with h1 | h1
    · exact h.2.2 z h1
    · rw [List.mem_singleton.1 h1]; exact (h.2.2 y hy).step hx
theorem ClsOk.push {m : Mp} {L : List Nat} {a x : Nat} (h : ClsOk m L a) (ha : a ≤ L.length) : ClsOk m (L ++ [x]) a := by
  intro y hy z hz
  rw [List.take_append_of_le_length ha] at hy
  exact List.mem_append_left _ (h y hy z hz)
theorem ClsOk.next {m : Mp} {L : List Nat} {a y : Nat} (h : ClsOk m L a) (hy : L[a]? = some y) (hn : ∀ x ∈ nextN m y, x ∈ L) : ClsOk m L (a + 1) := by
  intro z hz x hx
  obtain ⟨ha, e⟩ := List.getElem?_eq_some_iff.1 hy
  rw [List.take_succ_eq_append_getElem ha, List.mem_append, List.mem_singleton, e] at hz
  rcases hz with h1 | h1
  · exact h z h1 x hx
  · rw [h1] at hx; exact hn x hx
theorem ClsOk.mem {m : Mp} {L : List Nat} {j : Nat} (hc : OpC m j) (hl : LstOk m j L) (h : ClsOk m L L.length) : ∀ x, x ∈ L ↔ x ∈ compL m j :=
  comp_mem hc hl.2.2 hl.2.1 (fun a ha k hk => h a (by rw [List.take_length]; exact ha) k hk)
theorem SeenOk.done {m : Mp} {L : List Nat} {j k : Nat} {S : List Bool} (hc : OpC m j) (hk : m.co.length = k) (hm : ∀ x, x ∈ L ↔ x ∈ compL m j) (h : SeenOk m j k S L) : SeenOk m (j + 1) k S [] := by
  refine ⟨h.1, fun i hi => ?_⟩
  rw [h.2 i hi, Done.next, hm i, mem_compL]
  constructor
  · rintro (h1 | ⟨_, h1⟩)
    · exact .inl (.inl h1)
    · exact .inl (.inr ⟨hc, h1⟩)
  · rintro ((h1 | h1) | h1)
    · exact .inl h1
    · exact .inr ⟨by omega, h1.2⟩
    · cases h1
theorem SeenOk.stay {m : Mp} {j k : Nat} {S : List Bool} (h9 : ¬ OpC m j ∨ Done m j j) (h : SeenOk m j k S []) : SeenOk m (j + 1) k S [] :=
  ⟨h.1, fun i hi => by rw [h.2 i hi, Done.stay h9]⟩
theorem SeenOk.zero (m : Mp) (k : Nat) : SeenOk m 0 k (List.replicate k false) [] := by
  refine ⟨by simp, fun i hi => ?_⟩
  rw [List.getElem?_replicate, if_pos hi]
  constructor
  · intro h; cases h
  · rintro (⟨a, h, _⟩ | h)
    · omega
    · cases h
open Classical in
theorem head_yes {m : Mp} {j : Nat} (hc : OpC m j) (hd : ¬ Done m j j) : isHead m j = true := by unfold isHead; exact decide_eq_true ⟨hc, hd⟩
open Classical in
theorem head_no {m : Mp} {j : Nat} (hd : Done m j j) : isHead m j = false := by unfold isHead; exact decide_eq_false fun h => h.2 hd
/-- The memory while the parts are sought. -/
structure OSt (w0 : World) (gs k q c1 : Nat) (A1 : Option Addr) (rs : List Rw) (S : List Bool) (bx : List Value) (w : World) : Prop where
  nest : Nest w (w0.heap.size + 1) A1 c1 q rs
  seen : w.ownsRow (w0.heap.size + 1) 4 1 (.slice (some ⟨gs, 0, none⟩) k k) k (bools S)
  box : Blk w w0.heap.size 29 bx
  bel : Below w0.heap.size w0 w
  sn : ∀ r ∈ rs, r.g ≠ gs
  so : Value.ownBlock (.slice A1 q c1) ≠ some gs
/-- .. and one part's cells. -/
structure BSt (w0 : World) (gs k q c1 : Nat) (A1 : Option Addr) (rs : List Rw) (S : List Bool) (bx : List Value) (gp cp : Nat) (L : List Nat) (w : World) : Prop where
  o : OSt w0 gs k q c1 A1 rs S bx w
  part : w.ownsRow (w0.heap.size + 1) 3 1 (.slice (some ⟨gp, 0, none⟩) L.length cp) L.length (ints (cast L))
  ps : gp ≠ gs
  pn : ∀ r ∈ rs, r.g ≠ gp
  po : Value.ownBlock (.slice A1 q c1) ≠ some gp
section
variable {w0 w w' : World} {gs k q c1 gp cp : Nat} {A1 : Option Addr} {rs : List Rw} {S : List Bool} {bx : List Value} {L : List Nat}
theorem OSt.on (h : OSt w0 gs k q c1 A1 rs S bx w) (hb : Below w.heap.size w w') : OSt w0 gs k q c1 A1 rs S bx w' :=
  ⟨h.nest.on hb, own_below h.seen hb, h.box.on hb, h.bel.trans (hb.mono h.bel.size), h.sn, h.so⟩
theorem BSt.on (h : BSt w0 gs k q c1 A1 rs S bx gp cp L w) (hb : Below w.heap.size w w') : BSt w0 gs k q c1 A1 rs S bx gp cp L w' :=
  ⟨h.o.on hb, own_below h.part hb, h.ps, h.pn, h.po⟩
theorem OSt.lts (h : OSt w0 gs k q c1 A1 rs S bx w) : gs < w.heap.size ∧ w0.heap.size + 1 ≤ gs ∧ w0.heap.size < w.heap.size := by
  have h1 := h.seen.lt gs rfl
  have h2 := h.box.lt
  omega
theorem BSt.lts (h : BSt w0 gs k q c1 A1 rs S bx gp cp L w) : gp < w.heap.size ∧ w0.heap.size + 1 ≤ gp := by
  have h1 := h.part.lt gp rfl
  omega
/-- A change of one block of the call's own, which is none of those that stay. -/
theorem OSt.other {T : Nat → Prop} (h : OSt w0 gs k q c1 A1 rs S bx w) (hc : Ch T w w') (h1 : ∀ r ∈ rs, ¬ T r.g) (h2 : ∀ x, Value.ownBlock (.slice A1 q c1) = some x → ¬ T x) (h3 : ¬ T gs) (h4 : ∀ x, T x → w0.heap.size + 1 ≤ x) : OSt w0 gs k q c1 A1 rs S bx w' :=
  ⟨h.nest.ch hc h2 h1, own_ch h.seen hc (fun x hx => by have e : gs = x := (by simpa [Value.ownBlock] using hx); rw [← e]; exact h3), h.box.ch hc (fun e => by have := h4 _ e; omega), Below.ch h.bel hc h.bel.size (fun x hx => by have := h4 x hx; omega), h.sn, h.so⟩
theorem OSt.mark (h : OSt w0 gs k q c1 A1 rs S bx w) (i : Nat) : OSt w0 gs k q c1 A1 rs (S.set i true) bx (w.setCell ⟨gs, i, none⟩ (.bool true)) ∧ w.frozen? ⟨gs, i, none⟩ = false := by
  have hl := h.lts
  have hst := (h.seen.stored i (.bool true)).1
  have e : (bools S).set i (.bool true) = bools (S.set i true) := by unfold bools; rw [List.map_set]
  rw [e] at hst
  have hc : Ch (fun x => x = gs) w (w.setCell ⟨gs, i, none⟩ (.bool true)) := ⟨rfl, rfl, rfl, (by simp), fun x _ hk => Below.heap_setCell w ⟨gs, i, none⟩ (.bool true) x hk⟩
  exact ⟨⟨h.nest.ch hc (fun x hx e => h.so (by rw [hx, e])) (fun r hr e => h.sn r hr e), hst, h.box.ch hc (by omega), Below.ch h.bel hc h.bel.size (fun x hx => by omega), h.sn, h.so⟩, h.seen.frozenAt i⟩
theorem OSt.scell (h : OSt w0 gs k q c1 A1 rs S bx w) {i : Nat} (hi : i < k) (hl : S.length = k) : ∃ b, S[i]? = some b ∧ w.cell? ⟨gs, i, none⟩ = some (.bool b) := by
  have h1 := h.seen.cellAt i (by omega)
  have e : S[i]? = some (S[i]'(by omega)) := List.getElem?_eq_getElem _
  refine ⟨S[i]'(by omega), e, ?_⟩
  rw [h1]
  unfold bools
  simp [hl, hi]
theorem BSt.mark (h : BSt w0 gs k q c1 A1 rs S bx gp cp L w) (i : Nat) : BSt w0 gs k q c1 A1 rs (S.set i true) bx gp cp L (w.setCell ⟨gs, i, none⟩ (.bool true)) := by
  have hc : Ch (fun x => x = gs) w (w.setCell ⟨gs, i, none⟩ (.bool true)) := ⟨rfl, rfl, rfl, (by simp), fun x _ hk => Below.heap_setCell w ⟨gs, i, none⟩ (.bool true) x hk⟩
  exact ⟨(h.o.mark i).1, own_ch h.part hc (fun x hx e => by have e9 : gp = x := (by simpa [Value.ownBlock] using hx); exact h.ps (by rw [e9, e])), h.ps, h.pn, h.po⟩
theorem BSt.push {A7 : Option Addr} {c7 : Nat} {x : Nat} {w7 : World} (h : BSt w0 gs k q c1 A1 rs S bx gp cp L w)
    (own7 : w7.ownsRow (w0.heap.size + 1) 3 1 (.slice A7 (L.length + 1) c7) (L.length + 1) (ints (cast L) ++ ints [(x : Int)])) (grow7 : w.grownBy w7 (Value.ownBlock (.slice (some ⟨gp, 0, none⟩) L.length cp))) (at7 : ∀ q : Nat, Value.ownBlock (.slice A7 (L.length + 1) c7) = some q → Value.ownBlock (.slice (some ⟨gp, 0, none⟩) L.length cp) = some q ∨ w.heap.size ≤ q) :
    ∃ g7, A7 = some ⟨g7, 0, none⟩ ∧ (g7 = gp ∨ w.heap.size ≤ g7) ∧ BSt w0 gs k q c1 A1 rs S bx g7 c7 (L ++ [x]) w7 := by
  obtain ⟨g7, rfl, hb7, _⟩ := own_at own7 (by omega)
  have hg : g7 = gp ∨ w.heap.size ≤ g7 := by
    rcases at7 g7 rfl with h1 | h1
    · left; simpa [Value.ownBlock] using h1.symm
    · exact .inr h1
  have hl := h.lts
  have ho := h.o.lts
  have hn := h.o.nest.lt
  have hc : Ch (fun j => j = gp) w w7 := Ch.of_grown grow7 (fun j e => by have e9 : gp = j := (by simpa [Value.ownBlock] using e); exact e9.symm)
  refine ⟨g7, rfl, hg, h.o.other hc (fun r hr e => h.pn r hr e) (fun y hy e => h.po (by rw [hy, e])) (fun e => h.ps e.symm) (fun y e => by omega), by rw [List.length_append, ← cast_snoc]; unfold ints at own7 ⊢; rw [List.map_append]; exact own7, ?_, ?_, ?_⟩
  · rcases hg with e | e
    · rw [e]; exact h.ps
    · omega
  · intro r hr
    have := (hn.2 r hr).2
    rcases hg with e | e
    · rw [e]; exact h.pn r hr
    · omega
  · intro e9
    have := (hn.1 g7 e9).2
    rcases hg with e | e
    · rw [e] at e9; exact h.po e9
    · omega
theorem BSt.pcell (h : BSt w0 gs k q c1 A1 rs S bx gp cp L w) {a y : Nat} (ha : L[a]? = some y) : w.cell? ⟨gp, a, none⟩ = some (.int .i64 (y : Nat)) := by
  obtain ⟨hl, e⟩ := List.getElem?_eq_some_iff.1 ha
  rw [h.part.cellAt a (by omega), ints_get (by rw [cast_len]; exact hl)]
  unfold cast
  rw [List.getElem_map, e]
end
end Go.Proofs.Ytdjdjceemfaigaa
