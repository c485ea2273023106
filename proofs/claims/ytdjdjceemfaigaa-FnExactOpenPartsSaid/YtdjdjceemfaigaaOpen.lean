/- How the arguments of this seat's laws are opened: each shape once, over any program. -/
import Derived.Test.YtdjdjceemfaigaaBase
import Derived.ProofKit
import Derived.OpenShut
import Derived.ShutString
import Derived.ChangeOld
import Derived.Lib.SmallJoins
import Derived.Deep.Slices
import Derived.Deep.Fields
namespace Go.Proofs.Ytdjdjceemfaigaa
set_option linter.unusedVariables false
set_option linter.unusedSimpArgs false
open Go.ChangeShapes Go.WideShapes Go.ChangeAt Go.RowKit Go.Joins Go.Deep
open Go.ChangeMaps (open_string)

def I64 (x : Int) : Prop := -9223372036854775808 ≤ x ∧ x ≤ 9223372036854775807
theorem i64_of_wf {x : Int} (h : (Lit.int .i64 x).wf = true) : I64 x := by
  simpa [Lit.wf, IntKind.min, IntKind.max, IntKind.signed, IntKind.bits, I64] using h
theorem add_none (b off i : Nat) : (⟨b, off, none⟩ : Addr).add i = ⟨b, off + i, none⟩ := by
  unfold Addr.add; split <;> simp_all
theorem spot_of_add {w : World} {a : Addr} {v : Value} (h : w.cell? (a.add 0) = some v) : ∃ b off, a = ⟨b, off, none⟩ := by
  have hs := World.cell?_spot h
  obtain ⟨b, off, spot⟩ := a
  exact ⟨b, off, by simpa [Addr.add] using hs⟩
theorem flatMap_get {α β : Type} {f : α → List β} {s : Nat} (hf : ∀ x, (f x).length = s) : ∀ (l : List α) (i j : Nat) (hi : i < l.length), j < s → (l.flatMap f)[i * s + j]? = (f l[i])[j]?
  | x :: r, 0, j, _, hj => by
    rw [List.flatMap_cons, Nat.zero_mul, Nat.zero_add, List.getElem?_append_left (by rw [hf]; exact hj)]; rfl
  | x :: r, i + 1, j, hi, hj => by
    rw [List.flatMap_cons, List.getElem?_append_right (by rw [hf, Nat.succ_mul]; omega), hf]
    have e : (i + 1) * s + j - s = i * s + j := by rw [Nat.succ_mul]; omega
    rw [e, flatMap_get hf r i j (by simpa using hi) hj]
    rfl
theorem flatMap_len {α β : Type} {f : α → List β} {s : Nat} (hf : ∀ x, (f x).length = s) (l : List α) : (l.flatMap f).length = l.length * s := by
  induction l with
  | nil => simp
  | cons x r ih => rw [List.flatMap_cons, List.length_append, hf, ih, List.length_cons, Nat.succ_mul]; omega
theorem div_mod_lt {j n s : Nat} (h : j < n * s) : j / s < n ∧ j % s < s ∧ j / s * s + j % s = j := by
  have hs : 0 < s := by rcases Nat.eq_zero_or_pos s with h0 | h0; (subst h0; simp at h); exact h0
  refine ⟨(Nat.div_lt_iff_lt_mul hs).2 h, Nat.mod_lt _ hs, ?_⟩
  rw [Nat.mul_comm]; exact Nat.div_add_mod j s

section
variable {H : Type} {enc : TypeId × Value → H} {P : Program} {w : World} {base : Nat} {spare : Nat → Bool} {held : Bool}

theorem opn_ints_at {t e : TypeId} {n0 : Nat} {v : Value} {y : DataW H × List MemPlace} (ht : P.underlying t = some (.slice e)) (he : P.underlying e = some (.int .i64)) (hc : P.cellsOf e = 1)
    (h : DataW.trod enc P w base spare held n0 t [v] = some y) :
    ∃ A n c l, v = .slice A n c ∧ n ≤ maxLen ∧ c ≤ maxLen ∧ Rd w w.heap.size 1 A n (ints l) ∧ ∀ x ∈ l, I64 x := by
  rcases open_ints ht he hc h with ⟨hcs, _⟩ | ⟨a, len, cap, zs, hcs, _, hl, hm, hz, _, hcell, hwf⟩
  · simp at hcs
    exact ⟨none, 0, 0, [], hcs, by simp, by simp, Rd.none_, by simp⟩
  · simp at hcs
    have hlen : len ≤ zs.length := by rw [hz]; split <;> omega
    refine ⟨some a, len, cap, zs.take len, hcs, by omega, hm, ⟨by simp [ints, hlen], fun hn => ?_⟩, fun x hx => i64_of_wf (hwf x (List.mem_of_mem_take hx))⟩
    obtain ⟨b, off, rfl⟩ := spot_of_add (hcell 0 (by omega))
    refine ⟨b, off, rfl, World.block_lt_of_cell? _ _ (hcell 0 (by omega)) |> fun q => by simpa [add_none] using q, fun j u hu => ?_⟩
    have hj : j < len := by
      have := (List.getElem?_eq_some_iff.1 hu).1
      simp [ints] at this; omega
    have hcj := hcell j (by omega)
    rw [add_none] at hcj
    rw [hcj]
    have : u = .int .i64 (zs.getD j 0) := by
      simp only [ints, List.getElem?_map, List.getElem?_take, hj, if_true] at hu
      rw [List.getElem?_eq_getElem (by omega)] at hu
      simp at hu
      rw [← hu]
      simp [List.getD, show j < zs.length by omega]
    rw [this]
theorem opn_ints {t e : TypeId} {r : Reach} {b0 : Nat} {v : Value} {d : DataW H} {p : List MemPlace} (ht : P.underlying t = some (.slice e)) (he : P.underlying e = some (.int .i64)) (hc : P.cellsOf e = 1)
    (hv : Value.okWide P w r b0 t v) (h : DataW.Trod enc P w base spare held t v d p) :
    ∃ A n c l, v = .slice A n c ∧ n ≤ maxLen ∧ c ≤ maxLen ∧ Rd w w.heap.size 1 A n (ints l) ∧ ∀ x ∈ l, I64 x := by
  obtain ⟨a0, len, cap, rfl⟩ := okWide_slice ht hv
  obtain ⟨fuel, hf⟩ := h
  exact opn_ints_at (v := .slice a0 len cap) ht he hc (by simpa [Value.cells] using hf)

/-- A struct's cells, all of whose fields are of one cell. -/
theorem trod_fields {t : TypeId} {fs : Array Field} {m : Nat} {cs : List Value} {x : DataW H × List MemPlace} (hs : P.underlying t = some (.struct fs)) (hone : oneCellFields P fs = true) (hC : P.cellsOf t = fs.size)
    (h : DataW.trod enc P w base spare held m t cs = some x) :
    cs.length = fs.size ∧ ∀ (j : Nat) (f : Field), fs[j]? = some f → ∃ c y n, cs[j]? = some c ∧ DataW.trod enc P w base spare held n f.type [c] = some y := by
  obtain ⟨xs, n, _, hx, hcl, hlen, hg⟩ := DataW.trod_struct hs h
  refine ⟨hcl.trans hC, fun j f hj => ?_⟩
  obtain ⟨o, k⟩ := hone_of hone j f hj
  have hjl : j < fs.size := (Array.getElem?_eq_some_iff.1 hj).1
  have hjc : j < cs.length := by rw [hcl, hC]; exact hjl
  have h1 := hg j f hj
  rw [o, k] at h1
  have hone' : (cs.drop j).take 1 = [cs[j]] := by
    rw [List.drop_eq_getElem_cons hjc]
    rfl
  rw [hone'] at h1
  have hxj : j < xs.length := by rw [hlen]; exact hjl
  exact ⟨cs[j], xs[j], n, List.getElem?_eq_getElem hjc, h1.trans (List.getElem?_eq_getElem hxj)⟩
theorem opn_fields {t : TypeId} {fs : Array Field} {r : Reach} {b0 : Nat} {v : Value} {d : DataW H} {p : List MemPlace} (hs : P.underlying t = some (.struct fs)) (hone : oneCellFields P fs = true) (hC : P.cellsOf t = fs.size)
    (hv : Value.okWide P w r b0 t v) (h : DataW.Trod enc P w base spare held t v d p) :
    ∃ cs : List Value, v = .agg cs.toArray ∧ cs.length = fs.size ∧ ∀ (j : Nat) (f : Field), fs[j]? = some f → ∃ c y n, cs[j]? = some c ∧ DataW.trod enc P w base spare held n f.type [c] = some y := by
  obtain ⟨cs, rfl, hsz⟩ := okWide_struct hs hv
  obtain ⟨fuel, hf⟩ := h
  exact ⟨cs.toList, by simp, trod_fields hs hone hC (show DataW.trod enc P w base spare held fuel t cs.toList = some (d, p) from hf)⟩
/-- A slice whose elements are structs (or ints, or strings): 'cellsOf a' are the cells of an element that reads as a. -/
theorem opn_list {α : Type} [Inhabited α] {cellsOf : α → List Value} {s : Nat} (hcs : ∀ x, (cellsOf x).length = s) {Ok : α → Prop} {t e : TypeId} {r : Reach} {b0 : Nat} {v : Value} {d : DataW H} {p : List MemPlace}
    (ht : P.underlying t = some (.slice e)) (hC : P.cellsOf e = s) (hs0 : 0 < s)
    (el : ∀ n cs x, DataW.trod enc P w base spare held n e cs = some x → ∃ a, cs = cellsOf a ∧ Ok a)
    (hv : Value.okWide P w r b0 t v) (h : DataW.Trod enc P w base spare held t v d p) :
    ∃ (A : Option Addr) (n c : Nat) (l : List α), v = .slice A n c ∧ n ≤ maxLen ∧ c ≤ maxLen ∧ l.length = n ∧ Rd w w.heap.size s A n (l.flatMap cellsOf) ∧ ∀ x ∈ l, Ok x := by
  obtain ⟨a0, len, cap, rfl⟩ := okWide_slice ht hv
  obtain ⟨fuel, hf⟩ := h
  rcases open_slice ht (show DataW.trod enc P w base spare held fuel t [.slice a0 len cap] = some (d, p) from hf) with ⟨hcs', _⟩ | ⟨a, len', cap', m, n, D, Pl, hcs', _, hl, hm, hmm, _, hi⟩
  · simp at hcs'
    obtain ⟨rfl, rfl, rfl⟩ := hcs'
    exact ⟨none, 0, 0, [], rfl, by simp, by simp, rfl, Rd.none_, by simp⟩
  · simp at hcs'
    obtain ⟨rfl, rfl, rfl⟩ := hcs'
    have hlm : len ≤ m := by rw [hmm]; split <;> omega
    obtain ⟨f, hf'⟩ := choose_lt (n := len) (p := fun i (x : α) => (∀ j, j < s → w.cell? (a.add (i * s + j)) = (cellsOf x)[j]?) ∧ Ok x) (fun i hil => by
      obtain ⟨cs', h1, h2⟩ := hi i (by omega)
      obtain ⟨x, hx, hok⟩ := el _ _ _ h2
      refine ⟨x, fun j hj => ?_, hok⟩
      obtain ⟨_, _, hat⟩ := World.cells?_some h1
      rw [hC] at hat
      rw [← hx, ← hat j hj, Go.Deep.add_add])
    have hll : ((List.range len).map f).length = len := by simp
    refine ⟨some a, len, cap, (List.range len).map f, rfl, by omega, hm, hll, ⟨by rw [flatMap_len hcs, hll], fun hn => ?_⟩, fun x hx => ?_⟩
    · have h0 := (hf' 0 hn).1 0 hs0
      rw [Nat.zero_mul, Nat.add_zero] at h0
      have hl0 : 0 < (cellsOf (f 0)).length := by rw [hcs]; exact hs0
      rw [List.getElem?_eq_getElem hl0] at h0
      obtain ⟨b, off, rfl⟩ := spot_of_add h0
      refine ⟨b, off, rfl, by have := World.block_lt_of_cell? _ _ h0; rwa [add_none] at this, fun j u hu => ?_⟩
      have hj : j < len * s := by
        have := (List.getElem?_eq_some_iff.1 hu).1
        rwa [flatMap_len hcs, hll] at this
      obtain ⟨d1, d2, d3⟩ := div_mod_lt hj
      have hd1 : j / s < ((List.range len).map f).length := by rw [hll]; exact d1
      have hg := flatMap_get hcs ((List.range len).map f) (j / s) (j % s) hd1 d2
      rw [d3, hu] at hg
      have hc := (hf' (j / s) d1).1 (j % s) d2
      rw [add_none, d3] at hc
      rw [hc, hg]
      simp
    · obtain ⟨i, hi', rfl⟩ := List.mem_map.1 hx
      exact (hf' i (List.mem_range.1 hi')).2
theorem opn_strs {t e : TypeId} {r : Reach} {b0 : Nat} {v : Value} {d : DataW H} {p : List MemPlace} (ht : P.underlying t = some (.slice e)) (he : P.underlying e = some .string) (hC : P.cellsOf e = 1)
    (hv : Value.okWide P w r b0 t v) (h : DataW.Trod enc P w base spare held t v d p) :
    ∃ (A : Option Addr) (n c : Nat) (l : List ByteArray), v = .slice A n c ∧ n ≤ maxLen ∧ c ≤ maxLen ∧ l.length = n ∧ Rd w w.heap.size 1 A n (l.flatMap fun s => [Value.string s]) ∧ ∀ x ∈ l, ByteArray.size x ≤ maxLen :=
  opn_list (α := ByteArray) (cellsOf := fun s => [Value.string s]) (s := 1) (fun _ => rfl) ht hC Nat.zero_lt_one (fun n cs x hx => by
    obtain ⟨s, rfl, _, hs⟩ := DataW.trod_string he hx
    exact ⟨s, rfl, hs⟩) hv h
theorem opn_bytes {t e : TypeId} {r : Reach} {b0 : Nat} {v : Value} {d : DataW H} {p : List MemPlace} (ht : P.underlying t = some (.slice e)) (he : P.underlying e = some (.int .u8)) (hC : P.cellsOf e = 1)
    (hv : Value.okWide P w r b0 t v) (h : DataW.Trod enc P w base spare held t v d p) :
    ∃ (A : Option Addr) (n c : Nat) (l : List Int), v = .slice A n c ∧ n ≤ maxLen ∧ c ≤ maxLen ∧ l.length = n ∧ Rd w w.heap.size 1 A n (l.flatMap fun b => [Value.int .u8 b]) ∧ ∀ x ∈ l, 0 ≤ x ∧ x ≤ 255 :=
  opn_list (α := Int) (cellsOf := fun s => [Value.int .u8 s]) (s := 1) (fun _ => rfl) ht hC Nat.zero_lt_one (fun n cs x hx => by
    obtain ⟨s, rfl, _, hs⟩ := DataW.trod_int he hx
    exact ⟨s, rfl, by simpa [Lit.wf, IntKind.min, IntKind.max, IntKind.signed, IntKind.bits] using hs⟩) hv h

theorem arr4 {α : Type} {l : List α} (h : l.length = 4) : ∃ a b c d, l = [a, b, c, d] := by
  match l, h with
  | [a, b, c, d], _ => exact ⟨a, b, c, d, rfl⟩
theorem arr5 {α : Type} {l : List α} (h : l.length = 5) : ∃ a b c d e, l = [a, b, c, d, e] := by
  match l, h with
  | [a, b, c, d, e], _ => exact ⟨a, b, c, d, e, rfl⟩
theorem arr6 {α : Type} {l : List α} (h : l.length = 6) : ∃ a b c d e f, l = [a, b, c, d, e, f] := by
  match l, h with
  | [a, b, c, d, e, f], _ => exact ⟨a, b, c, d, e, f, rfl⟩
theorem arr2 {α : Type} {l : List α} (h : l.length = 2) : ∃ a b, l = [a, b] := by
  match l, h with
  | [a, b], _ => exact ⟨a, b, rfl⟩
end
end Go.Proofs.Ytdjdjceemfaigaa
