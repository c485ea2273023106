/- A world in which only some blocks have changed; the comparisons and marks that the laws use, in these words. -/
import Derived.Test.YtdjdjceemfaigaaInts
import Derived.Test.YtdjdjceemfaigaaMap
namespace Go.Proofs.Ytdjdjceemfaigaa
set_option linter.unusedVariables false
set_option linter.unusedSimpArgs false
open Go.RowKit
/-- Of what was there only blocks of which S holds may have changed. -/
structure Ch (S : Nat → Prop) (w w' : World) : Prop where
  os : w'.os = w.os
  tape : w'.tape = w.tape
  output : w'.output = w.output
  size : w.heap.size ≤ w'.heap.size
  block : ∀ k, k < w.heap.size → ¬ S k → w'.heap[k]? = w.heap[k]?
section
variable {S : Nat → Prop} {w w' w'' : World}
theorem Ch.of_grown {row : Option Nat} (h : w.grownBy w' row) (hS : ∀ k, row = some k → S k) : Ch S w w' :=
  ⟨h.os, h.tape, h.output, h.size, fun k hk hs => h.block k hk (fun e => hs (hS k e.symm))⟩
theorem Ch.of_below (h : Below w.heap.size w w') : Ch S w w' := ⟨h.os, h.tape, h.output, h.size, fun k hk _ => h.block k hk⟩
theorem Ch.trans (h : Ch S w w') (k : Ch S w' w'') : Ch S w w'' :=
  ⟨k.os.trans h.os, k.tape.trans h.tape, k.output.trans h.output, Nat.le_trans h.size k.size, fun i hi hs => (k.block i (Nat.lt_of_lt_of_le hi h.size) hs).trans (h.block i hi hs)⟩
theorem Blk.ch {g : Nat} {t : TypeId} {cs : List Value} (h : Blk w g t cs) (hc : Ch S w w') (hg : ¬ S g) : Blk w' g t cs := (hc.block g h.lt hg).trans h
theorem own_ch {base : Nat} {e : TypeId} {size : Nat} {v : Value} {n : Nat} {xs : List Value} (h : w.ownsRow base e size v n xs) (hc : Ch S w w') (hne : ∀ k, v.ownBlock = some k → ¬ S k) : w'.ownsRow base e size v n xs := by
  refine ⟨h.1, ?_⟩
  rcases h.2 with hn | ⟨g, cap, cur, rfl, hb, hgg, rest⟩
  · exact .inl hn
  · refine .inr ⟨g, cap, cur, rfl, hb, ?_, rest⟩
    rw [hc.block g (Array.getElem?_eq_some_iff.1 hgg).1 (hne g rfl)]
    exact hgg
theorem Below.ch {B : Nat} {w0 : World} (h : Below B w0 w) (hc : Ch S w w') (hB : B ≤ w.heap.size) (hS : ∀ k, S k → B ≤ k) : Below B w0 w' :=
  h.trans ⟨hc.os, hc.tape, hc.output, hc.size, fun k hk => hc.block k (by omega) (fun hs => by have := hS k hs; omega)⟩
theorem own_form {base : Nat} {e : TypeId} {size : Nat} {v : Value} {n : Nat} {xs : List Value} (h : w.ownsRow base e size v n xs) : ∃ A c, v = .slice A n c := by
  rcases h.2 with ⟨rfl, rfl⟩ | ⟨g, cap, _, rfl, _⟩
  · exact ⟨_, _, rfl⟩
  · exact ⟨_, _, rfl⟩
theorem grown_of_below (h : Below w.heap.size w w') (row : Option Nat) : w.grownBy w' row := ⟨h.os, h.tape, h.output, h.size, fun k hk _ => h.block k hk⟩
theorem own_below {base : Nat} {e : TypeId} {size : Nat} {v : Value} {n : Nat} {xs : List Value} (h : w.ownsRow base e size v n xs) (hb : Below w.heap.size w w') : w'.ownsRow base e size v n xs :=
  h.kept (grown_of_below hb none) (by cases v.ownBlock <;> simp)
theorem own_le {base base' size n : Nat} {e : TypeId} {v : Value} {xs : List Value} (h : w.ownsRow base e size v n xs) (hb : base' ≤ base) : w.ownsRow base' e size v n xs :=
  ⟨h.1, h.2.elim Or.inl (fun ⟨g, cap, cur, hv, hg, r⟩ => Or.inr ⟨g, cap, cur, hv, Nat.le_trans hb hg, r⟩)⟩
theorem own_blk {base : Nat} {e : TypeId} {size g n : Nat} {xs : List Value} (h : w.ownsRow base e size (.slice (some ⟨g, 0, none⟩) n n) n xs) : Blk w g e xs := by
  rcases h.2 with ⟨hv, _⟩ | ⟨g', cap, cur, hv, _, hg, _, _, hcs, ht⟩
  · simp at hv
  · simp only [Value.slice.injEq, Option.some.injEq, Addr.mk.injEq, and_true, true_and] at hv
    obtain ⟨rfl, rfl⟩ := hv
    rw [List.take_of_length_le (by rw [Array.length_toList, hcs]; exact Nat.le_refl _)] at ht
    unfold Blk
    rw [hg, ← ht]
/-- The blocks of two rows, the one made before the other. -/
theorem own_apart {b1 b2 : Nat} {e1 e2 : TypeId} {s1 s2 : Nat} {v1 v2 : Value} {n1 n2 : Nat} {x1 x2 : List Value} {w2 : World} (h1 : w.ownsRow b1 e1 s1 v1 n1 x1) (h2 : w2.ownsRow b2 e2 s2 v2 n2 x2) (hb : w.heap.size ≤ b2) :
    ∀ k, v1.ownBlock = some k → ¬ (v2.ownBlock = some k) := by
  intro k hk h'
  have l1 := (h1.lt k hk).2
  have l2 := (h2.lt k h').1
  omega
end
theorem eqIntS_b {A B : Option Addr} {n c d b1 b2 : Nat} {xs : List Int} {w : World} (hA : Rd w b1 1 A n (ints xs)) (hB : Rd w b2 1 B n (ints xs)) (hn : n ≤ maxLen) :
    Calls Try.prog 20 #[.slice A n c, .slice B n d] w fun e w' => e = .returned (.bool true) ∧ Below w.heap.size w w' :=
  (eqIntS_any A B n n c d b1 b2 xs xs w hA hB hn hn).mono fun e w' ⟨he, k, hk⟩ => ⟨by rw [he]; simp, by rw [hk]; exact below_drewN (Below.refl _ _) k⟩
theorem heldIntS_b {A : Option Addr} {n c b1 : Nat} {k : Int} {w : World} (hA : Rd w b1 1 A n (marksI k n)) (hk0 : 0 ≤ k) (hk1 : k ≤ 1000000000) (hn : n ≤ 1000000000) :
    Calls Try.prog 22 #[.slice A n c, .int .i64 k] w fun e w' => e = .returned (.int .i64 (k + n)) ∧ Below w.heap.size w w' :=
  (heldIntS_any A n c b1 k w hA hk0 hk1 hn).mono fun e w' ⟨he, q, hq⟩ => ⟨he, by rw [hq]; exact below_drewN (Below.refl _ _) q⟩
set_option maxHeartbeats 1000000 in
theorem markMap_any {wd ht : Int} {g1 g2 n m : Nat} {ri co : List Int} {w : World} (M1 : Blk w g1 3 (ints ri)) (M2 : Blk w g2 3 (ints co)) (hn : ri.length = n) (hm : co.length = m) (hne : g1 ≠ g2) (hn' : n ≤ 1048576) (hm' : m ≤ 1048576) :
    Calls Try.prog 10 #[.agg #[.int .i64 wd, .int .i64 ht, .slice (some ⟨g1, 0, none⟩) n n, .slice (some ⟨g2, 0, none⟩) m m], .int .i64 1] w fun e w' => e = .returned (.int .i64 (1 + n + m)) ∧ Ch (fun k => k = g1 ∨ k = g2) w w' ∧
      Blk w' g1 3 (marksI 1 n) ∧ Blk w' g2 3 (marksI (1 + n) m) := by
  have hnl : n ≤ maxLen := by simp only [maxLen]; omega
  have hml : m ≤ maxLen := by simp only [maxLen]; omega
  go_enter Try.func10, Try.ntmps10
  go_wp2_with fail
  refine (markIntS_any _ _ _ 0 _ _ _ (by exact (M1.alloc _).own (base := 0) (size := 1) (Nat.zero_le _) (by simp [ints, hn]) hnl) (by omega) (by omega) (by omega)).mono ?_
  rintro e w1 ⟨rfl, O1, gr1⟩
  have K := ((Blk.new w 29 [.int .i64 wd, .int .i64 ht, .slice (some ⟨g1, 0, none⟩) n n, .slice (some ⟨g2, 0, none⟩) m m]).grown gr1 (by simp [Value.ownBlock]; have := M1.lt; omega))
  have N2 := (M2.alloc (.cells #[.int .i64 wd, .int .i64 ht, .slice (some ⟨g1, 0, none⟩) n n, .slice (some ⟨g2, 0, none⟩) m m] 29)).grown gr1 (by simp [Value.ownBlock]; omega)
  obtain ⟨k0, k1, k2, k3⟩ := blk4 K
  go_wp2_with fail
  refine (markIntS_any _ _ _ 0 _ _ _ (by exact N2.own (base := 0) (size := 1) (Nat.zero_le _) (by simp [ints, hm]) hml) (by omega) (by omega) (by omega)).mono ?_
  rintro e w2 ⟨rfl, O2, gr2⟩
  go_wp2_with fail
  go_ret
  refine ⟨rfl, ?_, ?_, ?_⟩
  · exact (Ch.of_below (show Below w.heap.size w _ from (by repeat (first | exact Below.refl _ _ | refine below_drewN ?_ _ | refine Below.drew ?_ | refine Below.alloc ?_ (by first | omega | (simp; done) | (simp; omega)) _ | refine Below.setCell ?_ (by first | omega | (simp; done) | (simp; omega)) _)))).trans ((Ch.of_grown gr1 (fun k hk => by simp [Value.ownBlock] at hk; exact .inl hk.symm)).trans (Ch.of_grown gr2 (fun k hk => by simp [Value.ownBlock] at hk; exact .inr hk.symm)))
  · exact (own_blk O1).grown gr2 (by simp [Value.ownBlock]; omega)
  · exact own_blk O2
end Go.Proofs.Ytdjdjceemfaigaa
