/- Missing pieces, sums of pieces: plain words. -/
import Derived.Test.YtkacopgfnkoifaaPieceP
namespace Go.Proofs.Ytkacopgfnkoifaa
/-- a piece -/
def OneP (r : List Int) : Prop := r.length = 3 ∧ ListP r
def isE (r : List Int) : Prop := r.length = 0
/-- pieces, some of them empty -/
def PiecesP (rows : List (List Int)) : Prop := (1 ≤ rows.length ∧ rows.length ≤ 5) ∧ ∀ i, i < rows.length → (rows.getD i []).length = 0 ∨ OneP (rows.getD i [])
/-- how many of the first i are empty -/
def emptN (rows : List (List Int)) : Nat → Nat
  | 0 => 0
  | i + 1 => emptN rows i + if (rows.getD i []).length = 0 then 1 else 0
/-- the last empty one of the first i -/
def emptA (rows : List (List Int)) : Nat → Int
  | 0 => -1
  | i + 1 => if (rows.getD i []).length = 0 then (i : Int) else emptA rows i
theorem emptN_le (rows : List (List Int)) (i : Nat) : emptN rows i ≤ i := by
  induction i with
  | zero => exact Nat.le_refl _
  | succ i ih => rw [emptN]; split <;> omega
theorem emptN_mono (rows : List (List Int)) {i j : Nat} (h : i ≤ j) : emptN rows i ≤ emptN rows j := by
  induction j with
  | zero => obtain rfl : i = 0 := by omega
            exact Nat.le_refl _
  | succ j ih =>
    by_cases e : i = j + 1
    · subst e; exact Nat.le_refl _
    · have := ih (by omega)
      rw [emptN]; omega
theorem emptN_yes {rows : List (List Int)} {i : Nat} (h : (rows.getD i []).length = 0) : emptN rows (i + 1) = emptN rows i + 1 := by rw [emptN, if_pos h]
theorem emptN_no {rows : List (List Int)} {i : Nat} (h : (rows.getD i []).length ≠ 0) : emptN rows (i + 1) = emptN rows i := by rw [emptN, if_neg h]; rfl
theorem emptA_yes {rows : List (List Int)} {i : Nat} (h : (rows.getD i []).length = 0) : emptA rows (i + 1) = i := by rw [emptA, if_pos h]
theorem emptA_no {rows : List (List Int)} {i : Nat} (h : (rows.getD i []).length ≠ 0) : emptA rows (i + 1) = emptA rows i := by rw [emptA, if_neg h]
theorem emptN_none {rows : List (List Int)} {n : Nat} (h : emptN rows n = 0) (i : Nat) (hi : i < n) : (rows.getD i []).length ≠ 0 := by
  intro e
  have h1 := emptN_mono rows (show i + 1 ≤ n by omega)
  rw [emptN_yes e] at h1; omega
/-- one empty row: which -/
theorem emptA_one {rows : List (List Int)} : ∀ n, emptN rows n ≤ 1 → ∀ i, i < n → ((rows.getD i []).length = 0 ↔ (i : Int) = emptA rows n) := by
  have low : ∀ n, emptN rows n = 0 → emptA rows n = -1 := by
    intro n
    induction n with
    | zero => intro _; rfl
    | succ n ih =>
      intro h
      by_cases e : (rows.getD n []).length = 0
      · rw [emptN_yes e] at h; omega
      · rw [emptN_no e] at h
        rw [emptA_no e]; exact ih h
  intro n
  induction n with
  | zero => intro _ i hi; omega
  | succ n ih =>
    intro h i hi
    by_cases e : (rows.getD n []).length = 0
    · rw [emptN_yes e] at h
      rw [emptA_yes e]
      by_cases hin : i = n
      · subst hin; exact ⟨fun _ => rfl, fun _ => e⟩
      · have := emptN_none (rows := rows) (n := n) (by omega) i (by omega)
        constructor
        · intro h'; exact absurd h' this
        · intro h'; omega
    · rw [emptN_no e] at h
      rw [emptA_no e]
      by_cases hin : i = n
      · subst hin
        constructor
        · intro h'; exact absurd h' e
        · intro h'
          have lt : ∀ m, emptA rows m < m := by
            intro m
            induction m with
            | zero => simp [emptA]
            | succ m ih => rw [emptA]; split <;> omega
          have := lt i
          omega
      · exact ih h i (by omega)
/-- a row added, with a sign, to another -/
def rowAdd (s : Int) (acc row : List Int) : List Int := (List.range acc.length).map fun i => if i < row.length then (acc.getD i 0 + s * row.getD i 0 + 991) % 991 else acc.getD i 0
theorem rowAdd_len (s : Int) (acc row : List Int) : (rowAdd s acc row).length = acc.length := by simp [rowAdd]
theorem rowAdd_getD (s : Int) (acc row : List Int) (i : Nat) (hi : i < acc.length) : (rowAdd s acc row).getD i 0 = if i < row.length then (acc.getD i 0 + s * row.getD i 0 + 991) % 991 else acc.getD i 0 := by
  simp [rowAdd, List.getD_eq_getElem?_getD, List.getElem?_range hi]
theorem rowAdd_one {s : Int} {acc row : List Int} (h : OneP acc) : OneP (rowAdd s acc row) := by
  obtain ⟨h1, h2, h3⟩ := h
  refine ⟨by rw [rowAdd_len, h1], by rw [rowAdd_len, h1]; omega, fun j hj => ?_⟩
  rw [rowAdd_len] at hj
  rw [rowAdd_getD _ _ _ _ hj]
  split
  · exact ⟨Int.emod_nonneg _ (by omega), by have := Int.emod_lt_of_pos (acc.getD j 0 + s * row.getD j 0 + 991) (show (0 : Int) < 991 by omega); omega⟩
  · exact h3 j hj
/-- the first i rows added to acc -/
def combR (s : Int) (acc : List Int) (rows : List (List Int)) : Nat → List Int
  | 0 => acc
  | i + 1 => rowAdd s (combR s acc rows i) (rows.getD i [])
theorem combR_one {s : Int} {acc : List Int} {rows : List (List Int)} (h : OneP acc) (i : Nat) : OneP (combR s acc rows i) := by
  induction i with
  | zero => exact h
  | succ i ih => exact rowAdd_one ih
theorem combR_len (s : Int) (acc : List Int) (rows : List (List Int)) (i : Nat) : (combR s acc rows i).length = acc.length := by
  induction i with
  | zero => rfl
  | succ i ih => rw [combR, rowAdd_len, ih]
/-- the sum of cell j of the first i rows -/
def sumR (rows : List (List Int)) (j : Nat) : Nat → Int
  | 0 => 0
  | i + 1 => sumR rows j i + (if j < (rows.getD i []).length then (rows.getD i []).getD j 0 else 0)
theorem combR_getD {s : Int} {acc : List Int} {rows : List (List Int)} (j : Nat) (hj : j < acc.length) (h0 : 0 ≤ acc.getD j 0 ∧ acc.getD j 0 ≤ 990) (i : Nat) : (combR s acc rows i).getD j 0 = (acc.getD j 0 + s * sumR rows j i) % 991 := by
  induction i with
  | zero => simp only [combR, sumR, Int.mul_zero, Int.add_zero]; omega
  | succ i ih =>
    rw [combR, rowAdd_getD _ _ _ _ (by rw [combR_len]; exact hj), ih, sumR]
    split
    · rw [Int.mul_add]
      generalize s * sumR rows j i = a
      generalize s * (rows.getD i []).getD j 0 = b
      omega
    · rw [Int.add_zero]
theorem zero_one : OneP (List.replicate 3 0) := ⟨rfl, by simp, fun j hj => by
  have h3 : j < 3 := by simpa using hj
  have : j = 0 ∨ j = 1 ∨ j = 2 := by omega
  rcases this with rfl | rfl | rfl <;> simp⟩
/-- all pieces are there -/
def FullP (rows : List (List Int)) : Prop := PiecesP rows ∧ emptN rows rows.length = 0
theorem FullP.row {rows : List (List Int)} (h : FullP rows) (i : Nat) (hi : i < rows.length) : OneP (rows.getD i []) := by
  rcases h.1.2 i hi with e | e
  · exact absurd e (emptN_none h.2 i hi)
  · exact e
theorem fullP_iff {rows : List (List Int)} : FullP rows ↔ (1 ≤ rows.length ∧ rows.length ≤ 5) ∧ ∀ i, i < rows.length → OneP (rows.getD i []) := by
  refine ⟨fun h => ⟨h.1.1, fun i hi => h.row i hi⟩, fun ⟨h1, h2⟩ => ⟨⟨h1, fun i hi => .inr (h2 i hi)⟩, ?_⟩⟩
  have : ∀ n, n ≤ rows.length → emptN rows n = 0 := by
    intro n
    induction n with
    | zero => intro _; rfl
    | succ n ih =>
      intro hn
      rw [emptN_no (by rw [(h2 n (by omega)).1]; omega)]
      exact ih (by omega)
  exact this _ (Nat.le_refl _)
/-- the sums, or nothing -/
noncomputable def parityL (rows : List (List Int)) : List Int := @ite _ (FullP rows) (Classical.propDecidable _) (combR 1 (List.replicate 3 0) rows rows.length) []
theorem parityL_yes {rows : List (List Int)} (h : FullP rows) : parityL rows = combR 1 (List.replicate 3 0) rows rows.length := if_pos h
theorem parityL_no {rows : List (List Int)} (h : ¬ FullP rows) : parityL rows = [] := if_neg h
/-- may it be repaired? -/
def RepP (rows : List (List Int)) (par : List Int) : Prop := PiecesP rows ∧ emptN rows rows.length ≤ 1 ∧ OneP par
def repRow (rows : List (List Int)) (par : List Int) (i : Nat) : List Int := if (rows.getD i []).length = 0 then combR (-1) par rows rows.length else rows.getD i []
noncomputable def repL (rows : List (List Int)) (par : List Int) : List (List Int) := @ite _ (RepP rows par) (Classical.propDecidable _) ((List.range rows.length).map (repRow rows par)) []
theorem repL_yes {rows : List (List Int)} {par : List Int} (h : RepP rows par) : repL rows par = (List.range rows.length).map (repRow rows par) := if_pos h
theorem repL_no {rows : List (List Int)} {par : List Int} (h : ¬ RepP rows par) : repL rows par = [] := if_neg h
theorem repRow_one {rows : List (List Int)} {par : List Int} (h : RepP rows par) (i : Nat) (hi : i < rows.length) : OneP (repRow rows par i) := by
  unfold repRow
  split
  · exact combR_one h.2.2 _
  · rcases h.1.2 i hi with e | e
    · contradiction
    · exact e
end Go.Proofs.Ytkacopgfnkoifaa
