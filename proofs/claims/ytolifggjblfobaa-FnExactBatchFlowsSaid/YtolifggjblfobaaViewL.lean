/- Views: the plain laws. -/
import Derived.Test.YtolifggjblfobaaViewS
namespace Go.Proofs.Ytolifggjblfobaa
def nm (fs : List F3) (i : Nat) : Int := (fs.getD i f0).2.2
theorem seen_step (fs : List F3) (i : Nat) : seen fs (i + 1) = addN (seen fs i) (nm fs i) := rfl
theorem mem_seen (fs : List F3) (i : Nat) (x : Int) : x ∈ seen fs i ↔ ∃ j, j < i ∧ nm fs j = x := by
  induction i with
  | zero => simp [seen]
  | succ i ih =>
    rw [seen_step]
    unfold addN
    split
    · rename_i h
      rw [ih]
      constructor
      · rintro ⟨j, hj, e⟩; exact ⟨j, by omega, e⟩
      · rintro ⟨j, hj, e⟩
        by_cases ej : j = i
        · subst ej
          rw [e] at h
          exact ih.1 h
        · exact ⟨j, by omega, e⟩
    · rw [List.mem_append, ih]
      constructor
      · rintro (⟨j, hj, e⟩ | h)
        · exact ⟨j, by omega, e⟩
        · simp at h; exact ⟨i, by omega, h.symm⟩
      · rintro ⟨j, hj, e⟩
        by_cases ej : j = i
        · subst ej; exact .inr (by simp [e])
        · exact .inl ⟨j, by omega, e⟩
/-- the number of name k -/
def num (fs : List F3) (k : Nat) : Nat := (seen fs k).idxOf (nm fs k)
theorem num_later (fs : List F3) (k n : Nat) (h : k < n) : (seen fs n).idxOf (nm fs k) = num fs k := by
  induction n with
  | zero => omega
  | succ n ih =>
    rw [seen_step]
    by_cases e : k = n
    · subst e
      unfold addN num
      split
      · rfl
      · rename_i hm
        rw [List.idxOf_append, if_neg hm, List.idxOf_eq_length hm]; simp
    · have h1 := ih (by omega)
      have hm : nm fs k ∈ seen fs n := (mem_seen fs n _).2 ⟨k, by omega, rfl⟩
      unfold addN
      split
      · exact h1
      · rw [List.idxOf_append, if_pos hm]; exact h1
theorem num_eq (fs : List F3) (j k : Nat) : num fs j = num fs k ↔ nm fs j = nm fs k := by
  have hj := num_later fs j (max j k + 1) (by omega)
  have hk := num_later fs k (max j k + 1) (by omega)
  rw [← hj, ← hk]
  constructor
  · intro e
    have mj : nm fs j ∈ seen fs (max j k + 1) := (mem_seen _ _ _).2 ⟨j, by omega, rfl⟩
    have mk : nm fs k ∈ seen fs (max j k + 1) := (mem_seen _ _ _).2 ⟨k, by omega, rfl⟩
    have g1 := List.getElem_idxOf (List.idxOf_lt_length_iff.2 mj)
    have g2 := List.getElem_idxOf (List.idxOf_lt_length_iff.2 mk)
    rw [← g1, ← g2]
    simp only [e]
  · intro e; rw [e]
theorem num_le (fs : List F3) (k : Nat) : num fs k ≤ (seen fs k).length := List.idxOf_le_length
theorem num_next (fs : List F3) (k : Nat) : (seen fs (k + 1)).length = if num fs k = (seen fs k).length then (seen fs k).length + 1 else (seen fs k).length := by
  rw [seen_step]
  unfold addN num
  by_cases h : nm fs k ∈ seen fs k
  · have := List.idxOf_lt_length_iff.2 h
    rw [if_pos h, if_neg (by omega)]
  · rw [if_neg h, if_pos (List.idxOf_eq_length h)]; simp
/-- the same pattern of names, the same numbers -/
theorem num_pattern (fs gs : List F3) (n : Nat) (h : ∀ j k, j < n → k < n → (nm fs j = nm fs k ↔ nm gs j = nm gs k)) : ∀ k, k ≤ n → (seen fs k).length = (seen gs k).length ∧ ∀ j, j < k → num fs j = num gs j := by
  intro k
  induction k with
  | zero => intro _; exact ⟨rfl, fun j hj => by omega⟩
  | succ k ih =>
    intro hk
    obtain ⟨h1, h2⟩ := ih (by omega)
    have key : num fs k = num gs k ∧ (nm fs k ∈ seen fs k ↔ nm gs k ∈ seen gs k) := by
      by_cases hm : nm fs k ∈ seen fs k
      · obtain ⟨j, hj, e⟩ := (mem_seen _ _ _).1 hm
        have e2 := (h j k (by omega) (by omega)).1 e
        have hm2 : nm gs k ∈ seen gs k := (mem_seen _ _ _).2 ⟨j, hj, e2⟩
        refine ⟨?_, by simp [hm, hm2]⟩
        rw [← (num_eq fs j k).2 e, ← (num_eq gs j k).2 e2]
        exact h2 j hj
      · have hm2 : ¬ nm gs k ∈ seen gs k := fun hm2 => by
          obtain ⟨j, hj, e⟩ := (mem_seen _ _ _).1 hm2
          exact hm ((mem_seen _ _ _).2 ⟨j, hj, (h j k (by omega) (by omega)).2 e⟩)
        refine ⟨?_, by simp [hm, hm2]⟩
        unfold num
        rw [List.idxOf_eq_length hm, List.idxOf_eq_length hm2, h1]
    refine ⟨?_, fun j hj => ?_⟩
    · rw [num_next, num_next, key.1, h1]
    · by_cases e : j = k
      · subst e; exact key.1
      · exact h2 j (by omega)
theorem viewR_getD (fs : List F3) (n i : Nat) (h : i < n) : (viewR fs n).getD i f0 = ((fs.getD i f0).1, (fs.getD i f0).2.1, ((num fs i : Nat) : Int)) := by
  simp [viewR, viewAt, num, nm, List.getD_eq_getElem?_getD, h]
theorem nm_viewR (fs : List F3) (n i : Nat) (h : i < n) : nm (viewR fs n) i = ((num fs i : Nat) : Int) := by
  unfold nm; rw [viewR_getD fs n i h]
theorem view_same (fs gs : List F3) (n : Nat) (h0 : ∀ i, i < n → (fs.getD i f0).1 = (gs.getD i f0).1 ∧ (fs.getD i f0).2.1 = (gs.getD i f0).2.1) (h : ∀ j k, j < n → k < n → (nm fs j = nm fs k ↔ nm gs j = nm gs k)) : viewR fs n = viewR gs n := by
  have hp := (num_pattern fs gs n h n (Nat.le_refl _)).2
  refine List.ext_getElem (by simp [viewR]) fun i h1 h2 => ?_
  have hi : i < n := by rw [viewR_len] at h1; exact h1
  have e1 := viewR_getD fs n i hi
  have e2 := viewR_getD gs n i hi
  rw [List.getD_eq_getElem?_getD, List.getElem?_eq_getElem h1, Option.getD_some] at e1
  rw [List.getD_eq_getElem?_getD, List.getElem?_eq_getElem h2, Option.getD_some] at e2
  rw [e1, e2, (h0 i hi).1, (h0 i hi).2, hp i hi]
theorem num_lt (fs : List F3) (k : Nat) : num fs k ≤ k := Nat.le_trans (num_le fs k) (seen_len fs k)
theorem view_valid {fs : List F3} (h : FlowsP fs) : FlowsP (viewR fs fs.length) := by
  refine ⟨by rw [viewR_len]; exact h.1, fun i hi => ?_⟩
  rw [viewR_len] at hi
  rw [viewR_getD fs _ i hi]
  obtain ⟨a, b, _⟩ := h.2 i hi
  exact ⟨a, b, by simp⟩
theorem view_twice {fs : List F3} (h : FlowsP fs) : viewL (viewL fs) = viewL fs := by
  rw [viewL_yes h, viewL_yes (view_valid h), viewR_len]
  refine (view_same fs (viewR fs fs.length) fs.length (fun i hi => by rw [viewR_getD fs _ i hi]; exact ⟨rfl, rfl⟩) fun j k hj hk => ?_).symm
  rw [nm_viewR fs _ j hj, nm_viewR fs _ k hk, ← num_eq]
  omega
theorem seen_take (fs : List F3) (k i : Nat) (h : i ≤ k) : seen (fs.take k) i = seen fs i := by
  induction i with
  | zero => rfl
  | succ i ih =>
    have e : nm (fs.take k) i = nm fs i := by
      unfold nm
      rw [List.getD_eq_getElem?_getD, List.getElem?_take, if_pos (by omega), ← List.getD_eq_getElem?_getD]
    rw [seen_step, seen_step, ih (by omega), e]
theorem view_part {fs : List F3} (h : FlowsP fs) (k : Nat) (hk : k ≤ fs.length) : viewL (fs.take k) = (viewL fs).take k := by
  have hl : (fs.take k).length = k := by simp; omega
  have e0 : ∀ i, i < k → (fs.take k).getD i f0 = fs.getD i f0 := fun i hi => by
    rw [List.getD_eq_getElem?_getD, List.getElem?_take, if_pos hi, ← List.getD_eq_getElem?_getD]
  have hp : FlowsP (fs.take k) := ⟨by rw [hl]; have := h.1; omega, fun i hi => by
    rw [hl] at hi
    rw [e0 i hi]
    exact h.2 i (by omega)⟩
  rw [viewL_yes h, viewL_yes hp, hl]
  refine List.ext_getElem (by simp [viewR]; omega) fun i h1 h2 => ?_
  rw [viewR_len] at h1
  simp only [viewR, List.getElem_map, List.getElem_range, List.getElem_take]
  unfold viewAt
  rw [e0 i h1, seen_take fs k i (by omega)]
end Go.Proofs.Ytolifggjblfobaa
