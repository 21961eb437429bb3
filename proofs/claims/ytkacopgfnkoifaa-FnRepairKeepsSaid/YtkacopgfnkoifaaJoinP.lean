/- Joined pieces: plain words. -/
import Derived.Test.YtkacopgfnkoifaaMissP
namespace Go.Proofs.Ytkacopgfnkoifaa
/-- the first i rows, one behind the other -/
def catR (rows : List (List Int)) : Nat → List Int
  | 0 => []
  | i + 1 => catR rows i ++ rows.getD i []
theorem catR_len {rows : List (List Int)} (n : Nat) (h : ∀ i, i < n → (rows.getD i []).length = 3) : (catR rows n).length = n * 3 := by
  induction n with
  | zero => rfl
  | succ n ih =>
    rw [catR, List.length_append, ih fun i hi => h i (by omega), h n (by omega)]; omega
theorem catR_at {rows : List (List Int)} (n : Nat) (h : ∀ i, i < n → (rows.getD i []).length = 3) (i : Nat) (hi : i < n) : pieceAt (catR rows n) i = rows.getD i [] := by
  induction n with
  | zero => omega
  | succ n ih =>
    have hl := catR_len n fun i hi => h i (by omega)
    rw [catR]
    by_cases e : i = n
    · subst e
      unfold pieceAt
      rw [List.take_of_length_le (by rw [List.length_append, hl, h i (by omega)]; omega), List.drop_append, hl, List.drop_of_length_le (by omega)]
      simp
    · have := ih (fun i hi => h i (by omega)) (by omega)
      rw [← this]
      unfold pieceAt
      rw [List.take_append, show (i + 1) * 3 - (catR rows n).length = 0 by rw [hl]; omega]
      simp
theorem chunks_cat {rows : List (List Int)} (h : ∀ i, i < rows.length → (rows.getD i []).length = 3) : chunks (catR rows rows.length) rows.length = rows := by
  refine List.ext_getElem (by rw [chunks_len]) fun i h1 h2 => ?_
  have := catR_at rows.length h i h2
  simp only [chunks, List.getElem_map, List.getElem_range]
  rw [this]
  simp [List.getD_eq_getElem?_getD, List.getElem?_eq_getElem h2]
theorem chunks_inj {a b : List Int} {k : Nat} (ha : a.length = k * 3) (hb : b.length = k * 3) (h : chunks a k = chunks b k) : a = b := by
  have key : ∀ i, i < k → pieceAt a i = pieceAt b i := fun i hi => by
    have h1 : (chunks a k)[i]? = (chunks b k)[i]? := by rw [h]
    simp only [chunks, List.getElem?_map, List.getElem?_range hi, Option.map_some, Option.some.injEq] at h1
    exact h1
  refine List.ext_getElem (by omega) fun j h1 h2 => ?_
  have hp := key (j / 3) (by omega)
  have hq : (pieceAt a (j / 3))[j % 3]? = (pieceAt b (j / 3))[j % 3]? := by rw [hp]
  unfold pieceAt at hq
  rw [List.getElem?_drop, List.getElem?_drop, List.getElem?_take, List.getElem?_take, if_pos (by omega), if_pos (by omega), show j / 3 * 3 + j % 3 = j by omega, List.getElem?_eq_getElem h1, List.getElem?_eq_getElem h2] at hq
  simpa using hq
theorem catR_in {rows : List (List Int)} (n : Nat) (h : ∀ i, i < n → OneP (rows.getD i [])) (j : Nat) (hj : j < (catR rows n).length) : 0 ≤ (catR rows n).getD j 0 ∧ (catR rows n).getD j 0 ≤ 990 := by
  induction n with
  | zero => simp [catR] at hj
  | succ n ih =>
    have hl := catR_len n fun i hi => (h i (by omega)).1
    rw [catR] at hj ⊢
    have h3 := h n (by omega)
    rw [List.length_append, hl, h3.1] at hj
    by_cases e : j < (catR rows n).length
    · rw [List.getD_eq_getElem?_getD, List.getElem?_append_left e, ← List.getD_eq_getElem?_getD]
      exact ih (fun i hi => h i (by omega)) e
    · rw [List.getD_eq_getElem?_getD, List.getElem?_append_right (by omega), ← List.getD_eq_getElem?_getD]
      exact h3.2.2 _ (by rw [h3.1]; omega)
/-- the first number -/
def catN (rows : List (List Int)) : Nat := ((catR rows rows.length).getD 0 0).toNat
def joinR (rows : List (List Int)) : List Int := ((catR rows rows.length).take (catN rows + 1)).drop 1
def JoinP (rows : List (List Int)) : Prop := FullP rows ∧ cutC (catN rows) = rows.length ∧ ∀ i, catN rows + 1 ≤ i → i < rows.length * 3 → (catR rows rows.length).getD i 0 = 0
noncomputable def joinL (rows : List (List Int)) : List Int := @ite _ (JoinP rows) (Classical.propDecidable _) (joinR rows) []
theorem joinL_yes {rows : List (List Int)} (h : JoinP rows) : joinL rows = joinR rows := if_pos h
theorem joinL_no {rows : List (List Int)} (h : ¬ JoinP rows) : joinL rows = [] := if_neg h
theorem FullP.cat {rows : List (List Int)} (h : FullP rows) : (catR rows rows.length).length = rows.length * 3 := catR_len _ fun i hi => (h.row i hi).1
theorem FullP.first {rows : List (List Int)} (h : FullP rows) : (catR rows rows.length).getD 0 0 = (catN rows : Int) ∧ catN rows ≤ 990 := by
  have := catR_in rows.length (fun i hi => h.row i hi) 0 (by rw [h.cat]; have := h.1.1; omega)
  unfold catN; omega
theorem joinR_len {rows : List (List Int)} (h : FullP rows) (hn : catN rows < rows.length * 3) : (joinR rows).length = catN rows := by
  unfold joinR
  rw [List.length_drop, List.length_take, h.cat]; omega
theorem joinR_list {rows : List (List Int)} (h : FullP rows) (hn : catN rows < rows.length * 3) : ListP (joinR rows) := by
  have h5 := h.1.1
  refine ⟨by rw [joinR_len h hn]; omega, fun j hj => ?_⟩
  rw [joinR_len h hn] at hj
  have := catR_in rows.length (fun i hi => h.row i hi) (1 + j) (by rw [h.cat]; omega)
  unfold joinR
  rw [List.getD_eq_getElem?_getD, List.getElem?_drop, List.getElem?_take, if_pos (by omega), ← List.getD_eq_getElem?_getD]
  exact this
theorem cat_split {rows : List (List Int)} (h : FullP rows) (hn : catN rows < rows.length * 3) : catR rows rows.length = (catN rows : Int) :: (joinR rows ++ (catR rows rows.length).drop (catN rows + 1)) := by
  have hl := h.cat
  have hf := h.first.1
  obtain ⟨N, hN⟩ : ∃ N, catN rows = N := ⟨_, rfl⟩
  unfold joinR
  rw [hN] at hf hn ⊢
  generalize catR rows rows.length = a at *
  cases a with
  | nil => simp at hl; omega
  | cons x a =>
    have hx : x = (N : Int) := by simpa using hf
    subst hx
    simp
/-- both tests of a join say the same -/
theorem join_iff {rows : List (List Int)} (h : FullP rows) : (catN rows < rows.length * 3 ∧ cutL (joinR rows) = rows) ↔ (cutC (catN rows) = rows.length ∧ ∀ i, catN rows + 1 ≤ i → i < rows.length * 3 → (catR rows rows.length).getD i 0 = 0) := by
  have h5 := h.1.1
  have main : ∀ (hn : catN rows < rows.length * 3), cutC (catN rows) = rows.length → (cutL (joinR rows) = rows ↔ ∀ i, catN rows + 1 ≤ i → i < rows.length * 3 → (catR rows rows.length).getD i 0 = 0) := fun hn hc => by
    have hl := joinR_len h hn
    have hp : CutP (joinR rows) := ⟨joinR_list h hn, by rw [hl, hc]; omega⟩
    rw [cutL_yes hp, hl, hc]
    have hrow : ∀ i, i < rows.length → (rows.getD i []).length = 3 := fun i hi => (h.row i hi).1
    have hpl : (padL (joinR rows)).length = rows.length * 3 := by rw [padL_len, hl, hc]
    have e1 : chunks (padL (joinR rows)) rows.length = rows ↔ padL (joinR rows) = catR rows rows.length := by
      constructor
      · intro e
        refine chunks_inj hpl h.cat ?_
        rw [e, chunks_cat hrow]
      · intro e
        rw [e, chunks_cat hrow]
    rw [e1]
    have hs := cat_split h hn
    have hdl : ((catR rows rows.length).drop (catN rows + 1)).length = rows.length * 3 - (catN rows + 1) := by rw [List.length_drop, h.cat]
    have e2 : padL (joinR rows) = catR rows rows.length ↔ (catR rows rows.length).drop (catN rows + 1) = List.replicate (rows.length * 3 - (catN rows + 1)) 0 := by
      unfold padL
      rw [hl, hc]
      constructor
      · intro e
        rw [hs] at e
        simp only [List.cons.injEq, true_and] at e
        have := List.append_cancel_left e
        rw [this.symm]
      · intro e
        rw [hs, e]
    rw [e2]
    constructor
    · intro e i h1 h2
      have : ((catR rows rows.length).drop (catN rows + 1))[i - (catN rows + 1)]? = some 0 := by
        rw [e, List.getElem?_replicate, if_pos (by omega)]
      rw [List.getElem?_drop, show catN rows + 1 + (i - (catN rows + 1)) = i by omega] at this
      rw [List.getD_eq_getElem?_getD, this]; rfl
    · intro e
      refine List.ext_getElem (by rw [hdl, List.length_replicate]) fun i h1 h2 => ?_
      rw [hdl] at h1
      have := e (catN rows + 1 + i) (by omega) (by omega)
      rw [List.getElem_drop, List.getElem_replicate]
      rw [List.getD_eq_getElem?_getD, List.getElem?_eq_getElem (by rw [h.cat]; omega)] at this
      simpa using this
  constructor
  · rintro ⟨hn, hc⟩
    have hc' : cutC (catN rows) = rows.length := by
      have hl := joinR_len h hn
      have h14 : cutC (catN rows) ≤ 5 := by unfold cutC; omega
      have hp : CutP (joinR rows) := ⟨joinR_list h hn, by rw [hl]; exact h14⟩
      have := congrArg List.length hc
      rw [cutL_yes hp, chunks_len, hl] at this
      exact this
    exact ⟨hc', (main hn hc').1 hc⟩
  · rintro ⟨hc, hz⟩
    have hn : catN rows < rows.length * 3 := by unfold cutC at hc; omega
    exact ⟨hn, (main hn hc).2 hz⟩
theorem joinP_iff {rows : List (List Int)} : JoinP rows ↔ FullP rows ∧ catN rows < rows.length * 3 ∧ cutL (joinR rows) = rows :=
  ⟨fun h => ⟨h.1, (join_iff h.1).2 h.2⟩, fun h => ⟨h.1, (join_iff h.1).1 h.2⟩⟩
end Go.Proofs.Ytkacopgfnkoifaa
