/- Plain laws: the map that a text is. -/
import Derived.Test.YtmmpcchjalgokaaDoorMtp
import Derived.Test.YtmmpcchjalgokaaDoorCutB
import Derived.Test.YtmmpcchjalgokaaDoorRead
namespace Go.Proofs.YtmmpcchjalgokaaDoor
set_option linter.unusedVariables false
set_option linter.unusedSimpArgs false
open Go.RowKit
theorem ba_nil_app (x : ByteArray) : (⟨#[]⟩ : ByteArray) ++ x = x := by apply ByteArray.ext; simp
theorem ba_app_nil (x : ByteArray) : x ++ (⟨#[]⟩ : ByteArray) = x := by apply ByteArray.ext; simp
theorem joinS_one (a : ByteArray) : joinS [a] = a := by
  unfold joinS
  rw [List.map_cons, List.map_nil, Lib.join_one]
theorem joinS_cons2 (a b : ByteArray) (l : List ByteArray) : joinS (a :: b :: l) = a ++ (⟨#[32]⟩ : ByteArray) ++ joinS (b :: l) := by
  unfold joinS
  rw [List.map_cons, Lib.join_cons, List.map_cons, Lib.join_cons]
  apply ByteArray.ext
  simp [Lib.joinTail]
theorem cuts_join : ∀ l : List ByteArray, l ≠ [] → (∀ x ∈ l, NoB x 32) → cuts (joinS l) 32 = l
  | [], h, _ => absurd rfl h
  | [a], _, h => by rw [joinS_one, cuts_no (h a (List.mem_cons_self ..))]
  | a :: b :: l, _, h => by
    rw [joinS_cons2, cuts_word (h a (List.mem_cons_self ..)), cuts_join (b :: l) (by simp) (fun x hx => h x (List.mem_cons_of_mem _ hx))]
theorem joinS_noB (c : UInt8) (hc : c ≠ 32) : ∀ l : List ByteArray, (∀ x ∈ l, NoB x c) → NoB (joinS l) c
  | [], _ => NoB.nil c
  | [a], h => by rw [joinS_one]; exact h a (List.mem_cons_self ..)
  | a :: b :: l, h => by
    rw [joinS_cons2]
    refine ((h a (List.mem_cons_self ..)).app (NoB.mem ?_)).app (joinS_noB c hc (b :: l) (fun x hx => h x (List.mem_cons_of_mem _ hx)))
    intro x hx e
    have : x = 32 := by simpa using hx
    exact hc (e.symm.trans this)
theorem joinS_size2 : ∀ l : List ByteArray, (∀ x ∈ l, x.size = 2) → (joinS l).size + 1 = 3 * l.length + (if l = [] then 1 else 0)
  | [], _ => rfl
  | [a], h => by rw [joinS_one, h a (List.mem_cons_self ..)]; rfl
  | a :: b :: l, h => by
    have ih := joinS_size2 (b :: l) (fun x hx => h x (List.mem_cons_of_mem _ hx))
    rw [if_neg (by simp)] at ih ⊢
    have h1 : (⟨#[32]⟩ : ByteArray).size = 1 := rfl
    rw [joinS_cons2, ByteArray.size_append, ByteArray.size_append, h a (List.mem_cons_self ..), h1]
    simp only [List.length_cons] at ih ⊢
    omega
/-- Lines, each with its end. -/
def txt (L : List ByteArray) : ByteArray := L.foldr (fun a t => a ++ (⟨#[10]⟩ : ByteArray) ++ t) ⟨#[]⟩
theorem txt_cons (a : ByteArray) (L : List ByteArray) : txt (a :: L) = a ++ (⟨#[10]⟩ : ByteArray) ++ txt L := rfl
theorem txt_snoc (L : List ByteArray) (x : ByteArray) : txt (L ++ [x]) = txt L ++ (x ++ (⟨#[10]⟩ : ByteArray)) := by
  induction L with
  | nil =>
    show x ++ _ ++ (⟨#[]⟩ : ByteArray) = (⟨#[]⟩ : ByteArray) ++ _
    rw [ba_app_nil, ba_nil_app]
  | cons a L ih => rw [List.cons_append, txt_cons, ih, txt_cons]; simp only [ByteArray.append_assoc]
theorem cuts_txt : ∀ L : List ByteArray, (∀ x ∈ L, NoB x 10) → cuts (txt L) 10 = L ++ [⟨#[]⟩]
  | [], _ => cuts_no (NoB.nil 10)
  | a :: L, h => by
    rw [txt_cons, cuts_word (h a (List.mem_cons_self ..)), cuts_txt L (fun x hx => h x (List.mem_cons_of_mem _ hx))]
    rfl
def lnR (m : Mp) (y : Nat) : ByteArray := joinS (rowW m y (cW m))
theorem rT_txt (m : Mp) : ∀ y, rT m y = txt ((List.range y).map (lnR m))
  | 0 => rfl
  | y + 1 => by rw [rT, rT_txt m y, List.range_succ, List.map_append, List.map_singleton, txt_snoc]; rfl
/- a cell's word -/
def fixW (x : ByteArray) : ByteArray := if x = (⟨#[35, 35]⟩ : ByteArray) then ⟨#[48, 48]⟩ else x
def byI (x : ByteArray) (k : Nat) : Int := ((x.data.toList.getD k 0).toNat : Int) - 48
def coI (x : ByteArray) : Int := byI (fixW x) 0
def riI (x : ByteArray) : Int := byI (fixW x) 1
def coS (x : ByteArray) : Int := rdV (x.extract 0 1)
def riS (x : ByteArray) : Int := rdV (x.extract 1 x.size)
theorem dd_word : ∀ u, u < 10 → ∀ v, v < 10 → digB u ++ digB v = (⟨#[UInt8.ofNat (48 + u), UInt8.ofNat (48 + v)]⟩ : ByteArray) := fun _ _ _ _ => rfl
theorem dd_byte : ∀ u, u < 10 → UInt8.ofNat (48 + u) ≠ 10 ∧ UInt8.ofNat (48 + u) ≠ 32 ∧ UInt8.ofNat (48 + u) ≠ 35 ∧ (UInt8.ofNat (48 + u)).toNat = 48 + u := by decide
/-- What is to be known of a word. -/
def WordOf (x : ByteArray) (c r : Int) : Prop := x.size = 2 ∧ NoB x 10 ∧ NoB x 32 ∧ coI x = c ∧ riI x = r ∧ coS x = c ∧ riS x = r
theorem rdV_dig {u : Nat} (h : u < 10) : rdV (⟨#[UInt8.ofNat (48 + u)]⟩ : ByteArray) = (u : Int) := by
  have := (rd_itoa (z := (u : Int)) (by omega) (by omega)).2
  rwa [itoaB_small h] at this
theorem word_dd {u v : Nat} (hu : u < 10) (hv : v < 10) : WordOf (digB u ++ digB v) u v := by
  rw [dd_word u hu v hv]
  obtain ⟨a1, a2, a3, a4⟩ := dd_byte u hu
  obtain ⟨b1, b2, b3, b4⟩ := dd_byte v hv
  have hf : fixW (⟨#[UInt8.ofNat (48 + u), UInt8.ofNat (48 + v)]⟩ : ByteArray) = ⟨#[UInt8.ofNat (48 + u), UInt8.ofNat (48 + v)]⟩ := by
    unfold fixW
    rw [if_neg]
    intro h
    have := congrArg (fun x : ByteArray => x.data.toList.getD 0 0) h
    exact a3 this
  have e1 : rdV ((⟨#[UInt8.ofNat (48 + u), UInt8.ofNat (48 + v)]⟩ : ByteArray).extract 0 1) = (u : Int) := rdV_dig hu
  have e2 : rdV ((⟨#[UInt8.ofNat (48 + u), UInt8.ofNat (48 + v)]⟩ : ByteArray).extract 1 2) = (v : Int) := rdV_dig hv
  refine ⟨rfl, NoB.mem ?_, NoB.mem ?_, ?_, ?_, e1, e2⟩
  · intro x hx
    have : x = UInt8.ofNat (48 + u) ∨ x = UInt8.ofNat (48 + v) := by simpa using hx
    rcases this with rfl | rfl <;> assumption
  · intro x hx
    have : x = UInt8.ofNat (48 + u) ∨ x = UInt8.ofNat (48 + v) := by simpa using hx
    rcases this with rfl | rfl <;> assumption
  · unfold coI byI
    rw [hf]
    show ((UInt8.ofNat (48 + u)).toNat : Int) - 48 = u
    rw [a4]; omega
  · unfold riI byI
    rw [hf]
    show ((UInt8.ofNat (48 + v)).toNat : Int) - 48 = v
    rw [b4]; omega
theorem rdV_hash : rdV (⟨#[35]⟩ : ByteArray) = 0 := by
  refine (rd_none ?_).2
  unfold rdM
  have e : rdT (⟨#[35]⟩ : ByteArray) = ⟨#[35]⟩ := by decide
  rw [e]
  split
  · exact decFrom_bad _ _ 0 35 rfl rfl
  · rfl
theorem word_hash : WordOf (⟨#[35, 35]⟩ : ByteArray) 0 0 := by
  refine ⟨rfl, NoB.mem (by decide), NoB.mem (by decide), ?_, ?_, ?_, ?_⟩
  · unfold coI fixW byI; rw [if_pos rfl]; rfl
  · unfold riI fixW byI; rw [if_pos rfl]; rfl
  · exact rdV_hash
  · exact rdV_hash
theorem wrd_word {m : Mp} (V : Valid m) {c : Nat} (hb : badC m c = false) : WordOf (wrd m c) (coA m c) (riA m c) := by
  obtain ⟨h1, h2, h3, h4⟩ := coA_bd V c
  obtain ⟨u, hu⟩ : ∃ u : Nat, coA m c = u := ⟨(coA m c).toNat, by omega⟩
  obtain ⟨v, hv⟩ : ∃ v : Nat, riA m c = v := ⟨(riA m c).toNat, by omega⟩
  unfold wrd
  split
  · rw [hu, hv, itoaB_small (u := u) (by omega), itoaB_small (u := v) (by omega)]
    exact word_dd (by omega) (by omega)
  · next h =>
    unfold badC at hb
    rw [decide_eq_false h] at hb
    have h5 : riA m c = 0 := by simpa using hb
    have h6 : coA m c = 0 := by omega
    rw [h5, h6]
    exact word_hash
/- the map that a text is -/
/-- The words of the first y lines. -/
def wsT (L : List ByteArray) (y : Nat) : List ByteArray := (L.take y).flatMap fun l => cuts l 32
theorem wsT_succ {L : List ByteArray} {y : Nat} (hy : y < L.length) : wsT L (y + 1) = wsT L y ++ cuts L[y] 32 := by
  unfold wsT
  rw [List.take_succ_eq_append_getElem hy, List.flatMap_append]
  simp
theorem range_rows (m : Mp) : ∀ H, (List.range H).flatMap (fun y => rowW m y (cW m)) = (List.range (H * cW m)).map (wrd m)
  | 0 => by simp
  | H + 1 => by
    rw [List.range_succ, List.flatMap_append, range_rows m H, Nat.succ_mul, List.range_add, List.map_append, List.map_map]
    simp [rowW]
structure PmKey (s : ByteArray) (m : Mp) : Prop where
  size : s.size ≤ 108
  len : (cuts s 10).length = cH m + 1
  low : 1 ≤ cH m ∧ cH m ≤ 6 ∧ 1 ≤ cW m ∧ cW m ≤ 6
  row : ∀ y (h : y < (cuts s 10).length), y < cH m → cuts (cuts s 10)[y] 32 = rowW m y (cW m)
  wd : m.wd = (cW m : Int)
  ht : m.ht = (cH m : Int)
  all : wsT (cuts s 10) (cH m) = (List.range m.co.length).map (wrd m)
  word : ∀ c, c < m.co.length → WordOf (wrd m c) (coA m c) (riA m c)
  co : m.co = (wsT (cuts s 10) (cH m)).map coI
  ri : m.ri = (wsT (cuts s 10) (cH m)).map riI
  co' : m.co = (wsT (cuts s 10) (cH m)).map coS
  ri' : m.ri = (wsT (cuts s 10) (cH m)).map riS
  n36 : m.co.length ≤ 36
  n : m.co.length = cH m * cW m
theorem mt_ok {m : Mp} (h : mtOk m = true) : Valid m ∧ ∀ c, c < m.co.length → badC m c = false := by
  unfold mtOk at h
  rw [Bool.and_eq_true, List.all_eq_true] at h
  refine ⟨valid_iff.1 h.1, fun c hc => ?_⟩
  have := h.2 c (List.mem_range.2 hc)
  simpa using this
theorem map_cells {l : List Int} {n : Nat} {ws : List ByteArray} {f : ByteArray → Int} {g : Nat → ByteArray} (hn : l.length = n) (hw : ws = (List.range n).map g) (h : ∀ c, c < n → f (g c) = l.getD c 0) : l = ws.map f := by
  subst hw
  apply List.ext_getElem
  · simp [hn]
  · intro i h1 h2
    simp only [List.getElem_map, List.getElem_range]
    rw [h i (by omega), List.getD_eq_getElem?_getD, List.getElem?_eq_getElem h1]
    rfl
theorem pm_key {m : Mp} {s : ByteArray} (h : mtOk m = true) (hs : mtV m = s) : PmKey s m := by
  obtain ⟨V, hb⟩ := mt_ok h
  obtain ⟨hn, w1, w6, h1, h6, e1, e2⟩ := cells_len V
  have hW : ∀ c, c < m.co.length → WordOf (wrd m c) (coA m c) (riA m c) := fun c hc => wrd_word V (hb c hc)
  have hcell : ∀ y x, y < cH m → x < cW m → y * cW m + x < m.co.length := by
    intro y x hy hx
    rw [hn]
    have := Nat.mul_le_mul_right (cW m) (show y + 1 ≤ cH m from hy)
    rw [Nat.succ_mul] at this
    omega
  have hrow : ∀ y, y < cH m → ∀ x ∈ rowW m y (cW m), x.size = 2 ∧ NoB x 10 ∧ NoB x 32 := by
    intro y hy x hx
    unfold rowW at hx
    obtain ⟨i, hi, rfl⟩ := List.mem_map.1 hx
    have := hW _ (hcell y i hy (List.mem_range.1 hi))
    exact ⟨this.1, this.2.1, this.2.2.1⟩
  have hs2 : s = txt ((List.range (cH m)).map (lnR m)) := by
    rw [← hs, mt_v h, hn, ← rT_eq w1, rT_txt]
  have hcut : cuts s 10 = (List.range (cH m)).map (lnR m) ++ [⟨#[]⟩] := by
    rw [hs2]
    refine cuts_txt _ fun x hx => ?_
    obtain ⟨y, hy, rfl⟩ := List.mem_map.1 hx
    exact joinS_noB 10 (by decide) _ fun x hx => (hrow y (List.mem_range.1 hy) x hx).2.1
  have hlen : (cuts s 10).length = cH m + 1 := by rw [hcut]; simp
  have hne : ∀ y, rowW m y (cW m) ≠ [] := by
    intro y h9
    have := congrArg List.length h9
    rw [rowW_len] at this
    simp at this; omega
  have hline : ∀ y, y < cH m → cuts (lnR m y) 32 = rowW m y (cW m) := fun y hy =>
    cuts_join _ (hne y) fun x hx => (hrow y hy x hx).2.2
  have hall : wsT (cuts s 10) (cH m) = (List.range m.co.length).map (wrd m) := by
    unfold wsT
    rw [hcut, List.take_left' (by simp), List.flatMap_map, hn, ← range_rows]
    rw [List.flatMap_def, List.flatMap_def]
    congr 1
    exact List.map_congr_left fun y hy => hline y (List.mem_range.1 hy)
  have hsz : ∀ y, y ≤ cH m → (txt ((List.range y).map (lnR m))).size = 3 * (y * cW m) := by
    intro y
    induction y with
    | zero => intro _; rw [Nat.zero_mul]; rfl
    | succ y ih =>
      intro hy
      have h2 := joinS_size2 (rowW m y (cW m)) (fun x hx => (hrow y hy x hx).1)
      rw [if_neg (hne y), rowW_len] at h2
      have h3 : (⟨#[10]⟩ : ByteArray).size = 1 := rfl
      rw [List.range_succ, List.map_append, List.map_singleton, txt_snoc, ByteArray.size_append, ih (by omega), ByteArray.size_append, h3]
      have e9 : (y + 1) * cW m = y * cW m + cW m := Nat.succ_mul y (cW m)
      show _ + ((joinS (rowW m y (cW m))).size + 1) = _
      omega
  have h36 : m.co.length ≤ 36 := V.n36.2
  exact
    { size := by rw [hs2, hsz _ (Nat.le_refl _), ← hn]; omega
      len := hlen
      low := ⟨h1, h6, w1, w6⟩
      row := fun y hy hy2 => by
        have e : (cuts s 10)[y] = lnR m y := by
          simp only [hcut]
          rw [List.getElem_append_left (by simpa using hy2)]
          simp
        rw [e]
        exact hline y hy2
      wd := e1
      ht := e2
      all := hall
      word := hW
      co := map_cells rfl hall fun c hc => (hW c hc).2.2.2.1
      ri := map_cells V.lc.symm hall fun c hc => (hW c hc).2.2.2.2.1
      co' := map_cells rfl hall fun c hc => (hW c hc).2.2.2.2.2.1
      ri' := map_cells V.lc.symm hall fun c hc => (hW c hc).2.2.2.2.2.2
      n36 := h36
      n := hn }
theorem mp_ext {m k : Mp} (h1 : m.wd = k.wd) (h2 : m.ht = k.ht) (h3 : m.ri = k.ri) (h4 : m.co = k.co) : m = k := by
  cases m; cases k
  simp only [Mp.mk.injEq]
  exact ⟨h1, h2, h3, h4⟩
/-- The width that the program holds behind y lines. -/
def wdT (L : List ByteArray) (y : Nat) : Nat := if y = 0 then 0 else (cuts (L.getD (y - 1) ⟨#[]⟩) 32).length
theorem wdT_succ {L : List ByteArray} {y : Nat} (hy : y < L.length) : wdT L (y + 1) = (cuts L[y] 32).length := by
  unfold wdT
  rw [if_neg (by omega), Nat.add_sub_cancel, List.getD_eq_getElem?_getD, List.getElem?_eq_getElem hy]
  rfl
/-- The program's candidate. -/
def canM (s : ByteArray) : Mp := ⟨(wdT (cuts s 10) ((cuts s 10).length - 1) : Nat), ((cuts s 10).length - 1 : Nat), (wsT (cuts s 10) ((cuts s 10).length - 1)).map riI, (wsT (cuts s 10) ((cuts s 10).length - 1)).map coI⟩
def canS (s : ByteArray) : Mp := ⟨((cuts ((cuts s 10).getD 0 ⟨#[]⟩) 32).length : Nat), ((cuts s 10).length - 1 : Nat), (wsT (cuts s 10) ((cuts s 10).length - 1)).map riS, (wsT (cuts s 10) ((cuts s 10).length - 1)).map coS⟩
theorem PmKey.cand {s : ByteArray} {m : Mp} (K : PmKey s m) : canM s = m := by
  obtain ⟨h1, h6, w1, w6⟩ := K.low
  have hl := K.len
  have e : (cuts s 10).length - 1 = cH m := by omega
  unfold canM
  rw [e]
  apply mp_ext
  · show ((wdT (cuts s 10) (cH m) : Nat) : Int) = m.wd
    obtain ⟨H, hH⟩ : ∃ H, cH m = H + 1 := ⟨cH m - 1, by omega⟩
    rw [hH, wdT_succ (by omega), K.row H (by omega) (by omega), rowW_len, K.wd]
  · exact K.ht.symm
  · exact K.ri.symm
  · exact K.co.symm
theorem PmKey.candS {s : ByteArray} {m : Mp} (K : PmKey s m) : canS s = m := by
  obtain ⟨h1, h6, w1, w6⟩ := K.low
  have hl := K.len
  have e : (cuts s 10).length - 1 = cH m := by omega
  unfold canS
  rw [e]
  apply mp_ext
  · show ((cuts ((cuts s 10).getD 0 ⟨#[]⟩) 32).length : Int) = m.wd
    have h0 : 0 < (cuts s 10).length := by omega
    rw [List.getD_eq_getElem?_getD, List.getElem?_eq_getElem h0]
    show ((cuts (cuts s 10)[0] 32).length : Int) = m.wd
    rw [K.row 0 h0 (by omega), rowW_len, K.wd]
  · exact K.ht.symm
  · exact K.ri'.symm
  · exact K.co'.symm
/-- Every word of the first lines is of two bytes, before and after '##' is read as '00'. -/
theorem PmKey.good {s : ByteArray} {m : Mp} (K : PmKey s m) : ∀ x ∈ wsT (cuts s 10) ((cuts s 10).length - 1), x.size = 2 ∧ (fixW x).size = 2 := by
  have hl := K.len
  have e : (cuts s 10).length - 1 = cH m := by omega
  rw [e, K.all]
  intro x hx
  obtain ⟨c, hc, rfl⟩ := List.mem_map.1 hx
  have := (K.word c (List.mem_range.1 hc)).1
  refine ⟨this, ?_⟩
  unfold fixW
  split
  · rfl
  · exact this
theorem PmKey.count {s : ByteArray} {m : Mp} (K : PmKey s m) : (wsT (cuts s 10) ((cuts s 10).length - 1)).length ≤ 36 := by
  have hl := K.len
  have e : (cuts s 10).length - 1 = cH m := by omega
  rw [e, K.all]
  simpa using K.n36
open Classical in
/-- The map that a text is, if any. -/
noncomputable def pmF (s : ByteArray) : Option Mp := if h : ∃ m, mtOk m = true ∧ mtV m = s then some h.choose else none
noncomputable def pmOk (s : ByteArray) : Bool := (pmF s).isSome
def mpZ : Mp := ⟨0, 0, [], []⟩
noncomputable def pmV (s : ByteArray) : Mp := (pmF s).getD mpZ
theorem pm_some {s : ByteArray} {m : Mp} (h1 : mtOk m = true) (h2 : mtV m = s) : pmOk s = true ∧ pmV s = m := by
  have e : pmF s = some m := by
    unfold pmF
    have hx : ∃ k, mtOk k = true ∧ mtV k = s := ⟨m, h1, h2⟩
    rw [dif_pos hx]
    congr 1
    obtain ⟨g1, g2⟩ := hx.choose_spec
    exact ((pm_key g1 g2).cand).symm.trans (pm_key h1 h2).cand
  unfold pmOk pmV; rw [e]; exact ⟨rfl, rfl⟩
theorem pm_none {s : ByteArray} (h : ∀ m, mtOk m = true → mtV m = s → False) : pmOk s = false ∧ pmV s = mpZ := by
  have e : pmF s = none := by
    unfold pmF
    rw [dif_neg]
    rintro ⟨m, h1, h2⟩
    exact h m h1 h2
  unfold pmOk pmV; rw [e]; exact ⟨rfl, rfl⟩
theorem pm_ok {s : ByteArray} (h : pmOk s = true) : mtOk (pmV s) = true ∧ mtV (pmV s) = s := by
  by_cases hx : ∃ m, mtOk m = true ∧ mtV m = s
  · obtain ⟨m, h1, h2⟩ := hx
    rw [(pm_some h1 h2).2]; exact ⟨h1, h2⟩
  · have := (pm_none (s := s) (fun m h1 h2 => hx ⟨m, h1, h2⟩)).1
    rw [this] at h; cases h
end Go.Proofs.YtmmpcchjalgokaaDoor
