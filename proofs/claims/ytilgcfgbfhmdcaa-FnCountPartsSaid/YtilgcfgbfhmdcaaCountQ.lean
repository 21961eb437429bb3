/- Plain laws on counted assignments: turned, and in parts. -/
import Derived.Test.YtilgcfgbfhmdcaaCountP
namespace Go.Proofs.Ytilgcfgbfhmdcaa
theorem sumTo_list (g : Nat → Nat) : ∀ k, sumTo g k = ((List.range k).map g).sum
  | 0 => rfl
  | k + 1 => by simp [sumTo, sumTo_list g k, List.range_succ]
/-- all the ways to fill the last d rows of n -/
def cellsL (n : Nat) : Nat → (Nat → Bool) → List (List (Nat × Nat))
  | 0, _ => [[]]
  | d + 1, u => (List.range n).flatMap fun r => if u r = true then [] else (cellsL n d (fun x => x == r || u x)).map ((n - (d + 1), r) :: ·)
def mayAll (rows : List (List Bool)) (c : List (Nat × Nat)) : Bool := c.all fun x => may rows x.1 x.2
theorem cnt_cells (rows : List (List Bool)) (n : Nat) : ∀ d u, cnt rows n d u = (cellsL n d u).countP (mayAll rows)
  | 0, _ => by simp [cnt, cellsL, mayAll]
  | d + 1, u => by
    rw [cnt, cellsL, List.countP_flatMap, sumTo_list]
    congr 1
    refine List.map_congr_left fun r _ => ?_
    rw [Function.comp_apply]
    cases hu : u r
    · rw [if_neg (c := false = true) (by simp), List.countP_map]
      cases hm : may rows (n - (d + 1)) r
      · rw [if_neg (by simp)]
        symm
        rw [List.countP_eq_zero]
        intro c _
        simp [mayAll, hm]
      · rw [if_pos (by simp), cnt_cells rows n d]
        refine List.countP_congr fun c _ => ?_
        simp [mayAll, hm]
    · simp
def noU : Nat → Bool := fun _ => false
def turnC (c : List (Nat × Nat)) : List (Nat × Nat) := c.map fun x => (x.2, x.1)
def sortC (n : Nat) (c : List (Nat × Nat)) : List (Nat × Nat) := (List.range n).flatMap fun i => c.filter fun x => x.1 == i
theorem turn_sorted : ∀ n, n < 6 → ∀ c ∈ cellsL n n noU, (sortC n (turnC c)).Perm (turnC c) := by decide +kernel
theorem turn_all : ∀ n, n < 6 → ((cellsL n n noU).map fun c => sortC n (turnC c)).Perm (cellsL n n noU) := by decide +kernel
theorem cells_in : ∀ n, n < 6 → ∀ c ∈ cellsL n n noU, ∀ x ∈ c, x.1 < n ∧ x.2 < n := by decide +kernel
/-- the table turned -/
def turnT (rows : List (List Bool)) (n i : Nat) : List (List Bool) := (List.range i).map fun a => (List.range n).map fun k => (rows.getD k []).getD a false
theorem may_turn (rows : List (List Bool)) (n a b : Nat) (ha : a < n) (hb : b < n) : may (turnT rows n n) a b = may rows b a := by
  simp [may, turnT, List.getD_eq_getElem?_getD, ha, hb]
theorem turn_grid (rows : List (List Bool)) (n : Nat) (h1 : 1 ≤ n) (h5 : n ≤ 5) : GridP (turnT rows n n) := by
  refine ⟨by simp [turnT]; omega, fun i hi => ?_⟩
  simp only [turnT, List.length_map, List.length_range] at hi ⊢
  simp [List.getD_eq_getElem?_getD, hi]
theorem cnt_turn (rows : List (List Bool)) (n : Nat) (h5 : n < 6) : cnt (turnT rows n n) n n noU = cnt rows n n noU := by
  rw [cnt_cells, cnt_cells]
  have e1 : (cellsL n n noU).countP (mayAll (turnT rows n n)) = (cellsL n n noU).countP (mayAll rows ∘ fun c => sortC n (turnC c)) := by
    refine List.countP_congr fun c hc => ?_
    rw [Function.comp_apply]
    have p := turn_sorted n h5 c hc
    have e : mayAll rows (sortC n (turnC c)) = mayAll rows (turnC c) := p.all_eq
    rw [e]
    have e3 : mayAll (turnT rows n n) c = mayAll rows (turnC c) := by
      rw [Bool.eq_iff_iff]
      simp only [mayAll, turnC, List.all_eq_true, List.mem_map]
      constructor
      · rintro h x ⟨y, hy, rfl⟩
        have := cells_in n h5 c hc y hy
        have h2 := h y hy
        rw [may_turn rows n _ _ this.1 this.2] at h2
        exact h2
      · intro h y hy
        have := cells_in n h5 c hc y hy
        rw [may_turn rows n _ _ this.1 this.2]
        exact h (y.2, y.1) ⟨y, hy, rfl⟩
    rw [e3]
  rw [e1, ← List.countP_map]
  exact (turn_all n h5).countP_eq _
theorem acount_turn {rows : List (List Bool)} (h : GridP rows) (n : Nat) (hn : rows.length = n) : acount (turnT rows n n) = acount rows := by
  have h1 := h.1
  rw [acount_yes h, acount_yes (turn_grid rows n (by omega) (by omega))]
  have e : (turnT rows n n).length = n := by simp [turnT]
  rw [e, hn]
  have := cnt_turn rows n (by omega)
  unfold noU at this
  rw [this]
/-- the receiver of row s -/
def colOf (c : List (Nat × Nat)) (s : Nat) : Nat := (c.lookup s).getD 0
def checkCol (n : Nat) : Bool := (cellsL n n noU).all fun c => (List.range n).all fun s => c.contains (s, colOf c s) && (decide (colOf c s < n) && c.all fun x => !(x.1 == s) || x.2 == colOf c s)
theorem check_col : ∀ n, n < 6 → checkCol n = true := by decide +kernel
theorem cells_col (n : Nat) (hn : n < 6) (c : List (Nat × Nat)) (hc : c ∈ cellsL n n noU) (s : Nat) (hs : s < n) : (s, colOf c s) ∈ c ∧ colOf c s < n ∧ ∀ x ∈ c, x.1 = s → x.2 = colOf c s := by
  have h := check_col n hn
  unfold checkCol at h
  rw [List.all_eq_true] at h
  have h1 := h c hc
  rw [List.all_eq_true] at h1
  have h2 := h1 s (List.mem_range.2 hs)
  simp only [Bool.and_eq_true, List.contains_iff_mem, decide_eq_true_eq, List.all_eq_true] at h2
  refine ⟨h2.1, h2.2.1, fun x hx e => ?_⟩
  have := h2.2.2 x hx
  simpa [e] using this
/-- the row of sender k, with receiver r alone if k is s; the first m cells done -/
def partR (rows : List (List Bool)) (n s r k m : Nat) : List Bool := (List.range n).map fun j => if j < m ∧ k = s ∧ j ≠ r then false else (rows.getD k []).getD j false
def partT (rows : List (List Bool)) (n s r i : Nat) : List (List Bool) := (List.range i).map fun k => partR rows n s r k n
theorem partR_len (rows : List (List Bool)) (n s r k m : Nat) : (partR rows n s r k m).length = n := by simp [partR]
theorem partT_len (rows : List (List Bool)) (n s r i : Nat) : (partT rows n s r i).length = i := by simp [partT]
theorem partT_step (rows : List (List Bool)) (n s r i : Nat) : partT rows n s r (i + 1) = partT rows n s r i ++ [partR rows n s r i n] := by simp [partT, List.range_succ]
theorem partR_zero {rows : List (List Bool)} {n k : Nat} (s r : Nat) (h : (rows.getD k []).length = n) : partR rows n s r k 0 = rows.getD k [] := by
  refine List.ext_getElem (by rw [partR_len, h]) fun j h1 h2 => ?_
  simp [partR, List.getD_eq_getElem?_getD] at h2 ⊢
  simp [h2]
theorem partR_set (rows : List (List Bool)) (n s r m : Nat) (hr : m ≠ r) : (partR rows n s r s m).set m false = partR rows n s r s (m + 1) := by
  refine List.ext_getElem (by simp [partR]) fun j h1 h2 => ?_
  simp only [partR, List.getElem_set, List.getElem_map, List.getElem_range]
  by_cases e : m = j
  · subst e; simp [hr]
  · rw [if_neg e]
    have : j < m + 1 ↔ j < m := by omega
    simp [this]
theorem partR_skip (rows : List (List Bool)) (n s r k m : Nat) (h : k ≠ s ∨ m = r) : partR rows n s r k (m + 1) = partR rows n s r k m := by
  refine List.ext_getElem (by simp [partR]) fun j h1 h2 => ?_
  simp only [partR, List.getElem_map, List.getElem_range]
  rcases h with h | h
  · simp [h]
  · by_cases e : m = j
    · subst e; simp [h]
    · have : j < m + 1 ↔ j < m := by omega
      simp [this]
theorem may_part (rows : List (List Bool)) (n s r a b : Nat) (ha : a < n) (hb : b < n) : may (partT rows n s r n) a b = (may rows a b && !(decide (a = s) && !decide (b = r))) := by
  simp [may, partT, partR, List.getD_eq_getElem?_getD, ha, hb]
  by_cases e1 : a = s <;> by_cases e2 : b = r <;> simp [e1, e2]
theorem part_grid (rows : List (List Bool)) (n s r : Nat) (h1 : 1 ≤ n) (h5 : n ≤ 5) : GridP (partT rows n s r n) := by
  refine ⟨by simp [partT]; omega, fun i hi => ?_⟩
  simp only [partT_len] at hi ⊢
  simp [partT, List.getD_eq_getElem?_getD, hi, partR_len]
theorem part_cell (rows : List (List Bool)) (n s r : Nat) (h5 : n < 6) (hs : s < n) (c : List (Nat × Nat)) (hc : c ∈ cellsL n n noU) : mayAll (partT rows n s r n) c = (mayAll rows c && decide (colOf c s = r)) := by
  obtain ⟨k1, k2, k3⟩ := cells_col n h5 c hc s hs
  rw [Bool.eq_iff_iff]
  simp only [mayAll, List.all_eq_true, Bool.and_eq_true, decide_eq_true_eq]
  constructor
  · intro h
    refine ⟨fun x hx => ?_, ?_⟩
    · have := cells_in n h5 c hc x hx
      have h2 := h x hx
      rw [may_part rows n s r _ _ this.1 this.2] at h2
      simp only [Bool.and_eq_true] at h2
      exact h2.1
    · have h2 := h _ k1
      rw [may_part rows n s r _ _ hs k2] at h2
      simp at h2
      exact h2.2
  · rintro ⟨h, e⟩ x hx
    have := cells_in n h5 c hc x hx
    rw [may_part rows n s r _ _ this.1 this.2, h x hx]
    by_cases e1 : x.1 = s
    · simp [e1, k3 x hx e1, e]
    · simp [e1]
theorem countP_parts (p : List (Nat × Nat) → Bool) (col : List (Nat × Nat) → Nat) (n : Nat) : ∀ L : List (List (Nat × Nat)), (∀ c ∈ L, col c < n) → sumTo (fun r => L.countP fun c => p c && decide (col c = r)) n = L.countP p
  | [], _ => by
    have : ∀ k, sumTo (fun _ => 0) k = 0 := fun k => by induction k with | zero => rfl | succ k ih => rw [sumTo, ih]
    simpa using this n
  | c :: L, h => by
    have ih := countP_parts p col n L (fun c hc => h c (by simp [hc]))
    have hc := h c (by simp)
    have add : ∀ (g g' : Nat → Nat) k, sumTo (fun r => g r + g' r) k = sumTo g k + sumTo g' k := fun g g' k => by
      induction k with
      | zero => rfl
      | succ k ih => simp only [sumTo, ih]; omega
    have one : ∀ k, sumTo (fun r => if (p c && decide (col c = r)) = true then 1 else 0) k = if p c = true ∧ col c < k then 1 else 0 := fun k => by
      induction k with
      | zero => simp [sumTo]
      | succ k ih =>
        rw [sumTo, ih]
        cases hp : p c
        · simp
        · by_cases e : col c = k
          · simp [e]
          · have : col c < k + 1 ↔ col c < k := by omega
            simp [e, this]
    simp only [List.countP_cons]
    rw [add, ih, one n]
    simp [hc]
theorem acount_part (rows : List (List Bool)) (n s r : Nat) (h1 : 1 ≤ n) (h5 : n ≤ 5) : acount (partT rows n s r n) = (cnt (partT rows n s r n) n n noU : Nat) := by
  rw [acount_yes (part_grid rows n s r h1 h5), partT_len]; rfl
theorem acount_parts {rows : List (List Bool)} (h : GridP rows) (n s : Nat) (hn : rows.length = n) (hs : s < n) : acount rows = (sumTo (fun r => cnt (partT rows n s r n) n n noU) n : Nat) := by
  have h1 := h.1
  rw [acount_yes h, hn]
  have e := cnt_cells rows n n noU
  rw [← countP_parts (mayAll rows) (fun c => colOf c s) n (cellsL n n noU) (fun c hc => (cells_col n (by omega) c hc s hs).2.1)] at e
  have : cnt rows n n (fun _ => false) = cnt rows n n noU := rfl
  rw [this, e]
  congr 1
  refine sumTo_congr n fun r _ => ?_
  rw [cnt_cells]
  exact List.countP_congr fun c hc => by rw [part_cell rows n s r (by omega) hs c hc]
theorem part_small (rows : List (List Bool)) (n s r : Nat) (h5 : n ≤ 5) : cnt (partT rows n s r n) n n noU ≤ 3125 := cnt_small _ _ _ _ h5 (Nat.le_refl _)
/-- one cell struck out -/
theorem may_struck (rows : List (List Bool)) (a b s r : Nat) (h : may (rows.set a ((rows.getD a []).set b false)) s r = true) : may rows s r = true := by
  unfold may at h ⊢
  by_cases e : a = s
  · subst e
    by_cases hl : a < rows.length
    · simp only [List.getD_eq_getElem?_getD, List.getElem?_set_self hl, Option.getD_some] at h ⊢
      by_cases e2 : b = r
      · subst e2
        by_cases hb : b < (rows[a]?.getD []).length
        · rw [List.getElem?_set_self hb] at h; simp at h
        · rw [List.getElem?_eq_none (by simp; omega)] at h; simp at h
      · rw [List.getElem?_set_ne e2] at h; exact h
    · rw [List.set_eq_of_length_le (by omega)] at h; exact h
  · simp only [List.getD_eq_getElem?_getD, List.getElem?_set_ne e] at h ⊢
    exact h
theorem struck_grid {rows : List (List Bool)} (h : GridP rows) (a b : Nat) : GridP (rows.set a ((rows.getD a []).set b false)) := by
  refine ⟨by rw [List.length_set]; exact h.1, fun i hi => ?_⟩
  rw [List.length_set] at hi ⊢
  by_cases e : a = i
  · subst e
    simp only [List.getD_eq_getElem?_getD, List.getElem?_set_self hi, Option.getD_some, List.length_set]
    simpa [List.getD_eq_getElem?_getD] using h.2 a hi
  · simp only [List.getD_eq_getElem?_getD, List.getElem?_set_ne e]
    simpa [List.getD_eq_getElem?_getD] using h.2 i hi
theorem acount_struck {rows : List (List Bool)} (h : GridP rows) (a b : Nat) : acount (rows.set a ((rows.getD a []).set b false)) ≤ acount rows := by
  rw [acount_yes h, acount_yes (struck_grid h a b), List.length_set]
  have := cnt_mono _ rows rows.length (fun s r _ _ h => may_struck rows a b s r h) rows.length (fun _ => false) (Nat.le_refl _)
  omega
end Go.Proofs.Ytilgcfgbfhmdcaa
