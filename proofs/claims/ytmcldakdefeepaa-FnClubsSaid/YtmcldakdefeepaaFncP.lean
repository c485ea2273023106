/- Plain laws for FnClubs: the clubs' members together, the largest club, all ages. -/
import Derived.Test.YtmcldakdefeepaaBig
namespace Go.Proofs.Ytmcldakdefeepaa
set_option linter.unusedVariables false
set_option linter.unusedSimpArgs false
open Go.RowKit
theorem sum_ind {α : Type} [DecidableEq α] (x : α) : ∀ ks : List α, ks.Nodup → (ks.map fun k => if x = k then 1 else 0).sum = if x ∈ ks then 1 else 0
  | [], _ => by simp
  | k :: ks, h => by
    rw [List.nodup_cons] at h
    rw [List.map_cons, List.sum_cons, sum_ind x ks h.2]
    by_cases hx : x = k
    · subst hx; simp [h.1]
    · simp [hx]
theorem sum_add {α : Type} (f g : α → Nat) : ∀ ks : List α, (ks.map fun k => f k + g k).sum = (ks.map f).sum + (ks.map g).sum
  | [] => rfl
  | k :: ks => by simp only [List.map_cons, List.sum_cons, sum_add f g ks]; omega
theorem sum_count {α β : Type} [DecidableEq α] (f : β → α) (ks : List α) (hn : ks.Nodup) : ∀ xs : List β, (∀ x ∈ xs, f x ∈ ks) → (ks.map fun k => (xs.filter fun x => decide (f x = k)).length).sum = xs.length
  | [], _ => by
    simp
    induction ks with
    | nil => rfl
    | cons k ks ih => simp [ih (List.nodup_cons.1 hn).2]
  | x :: xs, h => by
    have h1 := sum_count f ks hn xs (fun y hy => h y (List.mem_cons_of_mem _ hy))
    have h2 := sum_ind (f x) ks hn
    rw [if_pos (h x (List.mem_cons_self ..))] at h2
    have h3 : (fun k => ((x :: xs).filter fun x => decide (f x = k)).length) = fun k => (xs.filter fun x => decide (f x = k)).length + (if f x = k then 1 else 0) := by
      funext k
      rw [List.filter_cons]
      by_cases e : f x = k
      · simp [e]
      · simp [e]
    rw [h3, sum_add, h1, h2, List.length_cons]
theorem cntC_key (l : List Rn) (c : ByteArray) : cntC l c = (l.filter fun r => decide (key r.club = key c)).length := by
  unfold cntC idsL
  rw [List.take_length, List.length_map]
  have : (fun r : Rn => cmB r.club c) = fun r => decide (key r.club = key c) := by
    funext r
    exact eqS_key _ _
  rw [this]
theorem bigF_max (l : List Rn) : ∀ (cs : List ByteArray) (s : ByteArray × Nat), s.2 ≤ (cs.foldl (bigStep l) s).2 ∧ ∀ c ∈ cs, cntC l c ≤ (cs.foldl (bigStep l) s).2
  | [], s => ⟨Nat.le_refl _, fun c h => by cases h⟩
  | c :: cs, s => by
    obtain ⟨h1, h2⟩ := bigF_max l cs (bigStep l s c)
    have h3 : s.2 ≤ (bigStep l s c).2 ∧ cntC l c ≤ (bigStep l s c).2 := by
      unfold bigStep
      split <;> (try dsimp only) <;> omega
    refine ⟨by rw [List.foldl_cons]; omega, fun d hd => ?_⟩
    rw [List.foldl_cons]
    rcases List.mem_cons.1 hd with rfl | hd
    · omega
    · exact h2 d hd
theorem bigF_at (l : List Rn) : ∀ (cs : List ByteArray) (s : ByteArray × Nat), (s.2 = 0 ∨ s.2 = cntC l s.1) → ((cs.foldl (bigStep l) s).2 = 0 ∨ (cs.foldl (bigStep l) s).2 = cntC l (cs.foldl (bigStep l) s).1)
  | [], s, h => h
  | c :: cs, s, h => by
    rw [List.foldl_cons]
    refine bigF_at l cs _ ?_
    unfold bigStep
    split
    · exact Or.inr rfl
    · exact h
theorem clubs_le {l : List Rn} {c : ByteArray} (hc : c ∈ cluB l) : cntC l c ≤ (bigK l (cluB l).length).2 := by
  unfold bigK
  rw [List.take_length]
  exact (bigF_max l _ _).2 c hc
theorem clubs_most {l : List Rn} {c : ByteArray} (hc : c ∈ cluB l) (hk : key c = key (bigK l (cluB l).length).1) : cntC l c = (bigK l (cluB l).length).2 := by
  have h1 := clubs_le hc
  have h2 : cntC l c = cntC l (bigK l (cluB l).length).1 := by rw [cntC_key, cntC_key, hk]
  have h3 := bigF_at l ((cluB l).take (cluB l).length) (ByteArray.empty, 0) (Or.inl rfl)
  change (bigK l (cluB l).length).2 = 0 ∨ (bigK l (cluB l).length).2 = cntC l (bigK l (cluB l).length).1 at h3
  omega
theorem cluB_keys (l : List Rn) : (cluB l).map key = Lib.compact (((clubs l).map key).mergeSort fun x y => decide (x ≤ y)) := clubB_key _
theorem cluB_nodup (l : List Rn) : ((cluB l).map key).Nodup := by
  unfold cluB clubB
  rw [foldl_insB_key]
  have h := foldl_insU_sorted ((clubs l).map key) [] List.Pairwise.nil
  exact h.imp fun {a b} hab he => by subst he; exact absurd hab (List.lt_irrefl a)
theorem cluB_mem (l : List Rn) (k : Bs) : k ∈ (cluB l).map key ↔ k ∈ (clubs l).map key := by
  unfold cluB clubB
  rw [foldl_insB_key, foldl_insU_mem]
  simp
theorem clubs_sum (l : List Rn) : ((cluB l).map (cntC l)).sum = l.length := by
  have h1 := sum_count (fun r : Rn => key r.club) ((cluB l).map key) (cluB_nodup l) l (fun r hr => (cluB_mem l _).2 (by
    refine List.mem_map.2 ⟨r.club, ?_, rfl⟩
    exact List.mem_map.2 ⟨r, hr, rfl⟩))
  rw [← h1, List.map_map]
  congr 2
  funext c
  exact cntC_key l c
theorem clubs_pos {l : List Rn} {c : ByteArray} (hc : c ∈ cluB l) : 0 < cntC l c := by
  have h1 : key c ∈ (clubs l).map key := (cluB_mem l _).1 (List.mem_map.2 ⟨c, hc, rfl⟩)
  obtain ⟨d, hd, he⟩ := List.mem_map.1 h1
  obtain ⟨r, hr, rfl⟩ := List.mem_map.1 hd
  rw [cntC_key]
  exact List.length_pos_of_mem (List.mem_filter.2 ⟨hr, by simpa using he⟩)
end Go.Proofs.Ytmcldakdefeepaa
