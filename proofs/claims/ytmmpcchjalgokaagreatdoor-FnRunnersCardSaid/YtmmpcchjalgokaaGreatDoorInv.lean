/- A region that draws its order, by an invariant over what has come up: each operation is looked at once. -/
import Derived.Orders
import Derived.RegionTactic
import Derived.Deep.Draws
namespace Go.Proofs.YtmmpcchjalgokaaGreatDoor
set_option linter.unusedVariables false
set_option linter.unusedSimpArgs false
open Go
section
variable {P : Program} {ops : Array Oper} {Q : Exit → Act → World → Prop} {md : Region.Mode}
/-- All operations wait for earlier ones only. -/
def backB (ops : Array Oper) : Bool := (List.range ops.size).all fun i => ((ops[i]?).map (·.after.all fun e => decide (e.on < i))).getD true
theorem backB_spec (h : backB ops = true) {i : Nat} {o : Oper} (ho : ops[i]? = some o) : ∀ e ∈ o.after, e.on < i := by
  unfold backB at h
  rw [List.all_eq_true] at h
  have hi : i < ops.size := by
    rcases Nat.lt_or_ge i ops.size with h1 | h1
    · exact h1
    · rw [Array.getElem?_eq_none h1] at ho; cases ho
  have h2 := h i (List.mem_range.2 hi)
  rw [ho] at h2
  intro e he
  have h3 : o.after.all (fun e => decide (e.on < i)) = true := by simpa using h2
  rw [Array.all_eq_true'] at h3
  simpa using h3 e he
theorem all_done (hb : backB ops = true) {listed : Array Bool} (hz : listed.size = ops.size) (hr : Region.ready md ops listed = []) : ∀ i, i < ops.size → listed.getD i false = true := by
  intro i
  induction i using Nat.strongRecOn with
  | _ i ih =>
    intro hi
    cases hc : listed.getD i false
    · exfalso
      have ho : ops[i]? = some ops[i] := Array.getElem?_eq_getElem hi
      have hm : i ∈ Region.ready md ops listed := mem_ready.2 ⟨by
        have hl : i < listed.size := by omega
        simp [hl] at hc ⊢
        exact hc, ops[i], ho, fun e he _ => ih e.on (backB_spec hb ho e he) (by have := backB_spec hb ho e he; omega)⟩
      rw [hr] at hm
      cases hm
    · rfl
def missing (listed : Array Bool) : Nat := listed.toList.count false
theorem missing_set {listed : Array Bool} {i : Nat} (hi : i < listed.size) (h : listed.getD i true = false) : missing (listed.setIfInBounds i true) + 1 = missing listed := by
  unfold missing
  rw [Array.toList_setIfInBounds, List.count_set (by simpa using hi)]
  have h2 : listed.toList[i] = false := by simpa [hi] using h
  have h3 : 0 < List.count false listed.toList := List.count_pos_iff.2 (by rw [← h2]; exact List.getElem_mem _)
  rw [h2]
  generalize List.count false listed.toList = c at *
  simp
  omega
theorem wpAny_inv {I : (Nat → Bool) → Act → World → Prop} (hb : backB ops = true)
    (hs : ∀ (d : Nat → Bool) (a : Act) (w : World) (i : Nat) (o : Oper), ops[i]? = some o → d i = false → (∀ e ∈ o.after, Region.binds md e = true → d e.on = true) → I d a w →
      ∀ K : Act → World → Prop, (∀ a w, I (fun j => if j = i then true else d j) a w → K a w) → if Region.wanted o (yielded ops a.tmps) = true then Oper.wp P o a w K Q else K (a.put o.dst undef) w)
    (hd : ∀ (d : Nat → Bool) (a : Act) (w : World), I d a w → (∀ i, i < ops.size → d i = true) → Q .normal a w) :
    ∀ (fuel : Nat) (listed : Array Bool) (a : Act) (w : World), listed.size = ops.size → missing listed ≤ fuel → I (fun j => listed.getD j false) a w → wpAny P md ops Q fuel listed a w := by
  intro fuel
  induction fuel with
  | zero =>
    intro listed a w hz hm hI
    have hall : ∀ i, i < ops.size → listed.getD i false = true := by
      intro i hi
      have hl : i < listed.size := by omega
      cases h : listed.getD i false
      · exfalso
        have := missing_set hl (by simp [hl] at h ⊢; exact h)
        omega
      · rfl
    refine ⟨?_, hd _ a w hI hall⟩
    cases hr : Region.ready md ops listed with
    | nil => rfl
    | cons x xs =>
      have hx : x ∈ Region.ready md ops listed := by rw [hr]; simp
      obtain ⟨h1, o, ho, _⟩ := mem_ready.1 hx
      have hxs : x < ops.size := by
        rcases Nat.lt_or_ge x ops.size with h | h
        · exact h
        · rw [Array.getElem?_eq_none h] at ho; cases ho
      have h2 := hall x hxs
      have hl : x < listed.size := by omega
      simp [hl] at h1 h2
      rw [h1] at h2
      cases h2
  | succ fuel ih =>
    intro listed a w hz hm hI
    refine ⟨fun hr => hd _ a w hI (all_done hb hz hr), fun i hi => ?_⟩
    obtain ⟨h1, o, ho, hall⟩ := mem_ready.1 hi
    have his : i < listed.size := by
      rcases Nat.lt_or_ge i listed.size with h | h
      · exact h
      · simp [Array.getElem?_eq_none h] at h1
    have h1f : listed.getD i false = false := by simp [his] at h1 ⊢; exact h1
    refine wpOp_step ho fun K hK => hs _ a w i o ho h1f hall hI K fun a' w' hI' => hK a' w' (ih _ a' w' (by simp [hz]) (by have := missing_set his h1; omega) ?_)
    have : (fun j => (listed.setIfInBounds i true).getD j false) = (fun j => if j = i then true else listed.getD j false) := by
      funext j
      by_cases hj : j = i
      · subst hj; simp [his]
      · rw [if_neg hj, getD_set_ne false (fun h => hj h.symm)]
    rw [this]
    exact hI'
theorem missing_rep (n : Nat) : missing (Array.replicate n false) = n := by simp [missing]
theorem wp_region_inv {id : Nat} {a : Act} {w : World} (I : (Nat → Bool) → Act → World → Prop) (hm : P.follows .mixedOrders = true) (hb : backB ops = true) (h0 : I (fun _ => false) a w.drew)
    (hs : ∀ (d : Nat → Bool) (a : Act) (w : World) (i : Nat) (o : Oper), ops[i]? = some o → d i = false → (∀ e ∈ o.after, Region.binds .any e = true → d e.on = true) → I d a w →
      ∀ K : Act → World → Prop, (∀ a w, I (fun j => if j = i then true else d j) a w → K a w) → if Region.wanted o (yielded ops a.tmps) = true then Oper.wp P o a w K Q else K (a.put o.dst undef) w)
    (hd : ∀ (d : Nat → Bool) (a : Act) (w : World), I d a w → (∀ i, i < ops.size → d i = true) → Q .normal a w) : (Code.region id ops true).wp P Q a w := by
  refine wp_region_any hm (wpAny_inv (md := .any) hb hs hd _ _ _ _ (by simp) (by rw [missing_rep]; exact Nat.le_refl _) ?_)
  have : (fun j => (Array.replicate ops.size false).getD j false) = fun _ => false := by
    funext j
    by_cases h : j < ops.size <;> simp [h]
  rw [this]
  exact h0
end
end Go.Proofs.YtmmpcchjalgokaaGreatDoor
