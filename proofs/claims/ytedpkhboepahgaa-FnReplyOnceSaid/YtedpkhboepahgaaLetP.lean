/- Letters and bodies in plain words. -/
import Derived.Test.YtedpkhboepahgaaMaskP
namespace Go.Proofs.Ytedpkhboepahgaa
def bodyL (l : List Int) : List Int := (l.length : Int) :: (l ++ List.replicate (4 - l.length) 0)
def packL (l : List Int) : List Int := bodyL l ++ [tagL 1 (bodyL l)]
def PackP (l : List Int) : Prop := ListP l ∧ l.length ≤ 4
open Classical in
noncomputable def packR (l : List Int) : List Int := if PackP l then packL l else []
theorem packR_yes {l : List Int} (h : PackP l) : packR l = packL l := if_pos h
theorem packR_no {l : List Int} (h : ¬ PackP l) : packR l = [] := if_neg h
theorem bodyL_len {l : List Int} (h : l.length ≤ 4) : (bodyL l).length = 5 := by simp [bodyL]; omega
theorem packL_len {l : List Int} (h : l.length ≤ 4) : (packL l).length = 6 := by simp [packL, bodyL_len h]
theorem list_snoc {xs : List Int} {x : Int} (h : ListP xs) (hl : xs.length < 24) (hx : 0 ≤ x ∧ x ≤ 990) : ListP (xs ++ [x]) := by
  refine ⟨by simp; omega, fun j hj => ?_⟩
  simp only [List.length_append, List.length_cons, List.length_nil] at hj
  by_cases e : j < xs.length
  · have := h.2 j e
    simpa [List.getD_eq_getElem?_getD, List.getElem?_append_left e] using this
  · have e2 : j = xs.length := by omega
    subst e2
    simpa [List.getD_eq_getElem?_getD] using hx
theorem list_mem {xs : List Int} : ListP xs ↔ xs.length ≤ 24 ∧ ∀ x, x ∈ xs → 0 ≤ x ∧ x ≤ 990 := by
  constructor
  · rintro ⟨h1, h2⟩
    refine ⟨h1, fun x hx => ?_⟩
    obtain ⟨i, hi, rfl⟩ := List.mem_iff_getElem.1 hx
    have := h2 i hi
    simpa [List.getD_eq_getElem?_getD, List.getElem?_eq_getElem hi] using this
  · rintro ⟨h1, h2⟩
    exact ⟨h1, fun j hj => h2 _ (mem_getD hj)⟩
theorem bodyL_list {l : List Int} (h : PackP l) : ListP (bodyL l) := by
  have hm := (list_mem.1 h.1).2
  refine list_mem.2 ⟨by rw [bodyL_len h.2]; omega, fun x hx => ?_⟩
  unfold bodyL at hx
  rcases List.mem_cons.1 hx with rfl | hx
  · have := h.2; omega
  · rcases List.mem_append.1 hx with hx | hx
    · exact hm x hx
    · have := List.eq_of_mem_replicate hx; omega
theorem packL_list {l : List Int} (h : PackP l) : ListP (packL l) := list_snoc (bodyL_list h) (by rw [bodyL_len h.2]; omega) (tagL_range _ _)
theorem packL_take {l : List Int} (h : l.length ≤ 4) : (packL l).take 5 = bodyL l := by
  unfold packL
  rw [List.take_append_of_le_length (by rw [bodyL_len h]; omega), List.take_of_length_le (by rw [bodyL_len h]; omega)]
/-- the letter in a body -/
def openL (b : List Int) : List Int := (b.drop 1).take (b.getD 0 0).toNat
def OpenP (b : List Int) : Prop := (ListP b ∧ b.length = 6) ∧ b.getD 0 0 ≤ 4 ∧ packL (openL b) = b
open Classical in
noncomputable def openR (b : List Int) : List Int := if OpenP b then openL b else []
theorem openR_yes {b : List Int} (h : OpenP b) : openR b = openL b := if_pos h
theorem openR_no {b : List Int} (h : ¬ OpenP b) : openR b = [] := if_neg h
theorem openL_len {b : List Int} (h : ListP b) (h6 : b.length = 6) (h4 : b.getD 0 0 ≤ 4) : (openL b).length = (b.getD 0 0).toNat := by
  have := h.2 0 (by omega)
  unfold openL
  rw [List.length_take, List.length_drop]; omega
theorem openL_pack {b : List Int} (h : ListP b) (h6 : b.length = 6) (h4 : b.getD 0 0 ≤ 4) : PackP (openL b) := by
  have hm := (list_mem.1 h).2
  have hl := openL_len h h6 h4
  refine ⟨list_mem.2 ⟨by omega, fun x hx => ?_⟩, by omega⟩
  unfold openL at hx
  exact hm x (List.mem_of_mem_drop (List.mem_of_mem_take hx))
theorem pack_open (l : List Int) : openL (packL l) = l := by
  unfold openL
  have e : (packL l).getD 0 0 = l.length := by simp [packL, bodyL]
  rw [e, Int.toNat_natCast]
  have e2 : (packL l).drop 1 = l ++ (List.replicate (4 - l.length) 0 ++ [tagL 1 (bodyL l)]) := by simp [packL, bodyL]
  rw [e2, List.take_left' rfl]
theorem openP_pack {l : List Int} (h : PackP l) : OpenP (packL l) := by
  refine ⟨⟨packL_list h, packL_len h.2⟩, ?_, by rw [pack_open l]⟩
  have e : (packL l).getD 0 0 = l.length := by simp [packL, bodyL]
  rw [e]; have := h.2; omega
/-- the body of the letter in it, number by number -/
theorem body_open {b : List Int} (h : ListP b) (h6 : b.length = 6) (h4 : b.getD 0 0 ≤ 4) (hz : ∀ i, (b.getD 0 0).toNat + 1 ≤ i → i < 5 → b.getD i 0 = 0) : bodyL (openL b) = b.take 5 := by
  have hl := openL_len h h6 h4
  have h0 := h.2 0 (by omega)
  obtain ⟨m, hm⟩ : ∃ m : Nat, b.getD 0 0 = (m : Int) := Int.eq_ofNat_of_zero_le h0.1
  rw [hm, Int.toNat_natCast] at hl hz
  refine ext_getD (by rw [bodyL_len (by omega)]; simp; omega) fun j hj => ?_
  rw [bodyL_len (by omega)] at hj
  have e5 : (b.take 5).getD j 0 = b.getD j 0 := by simp [List.getD_eq_getElem?_getD, hj]
  rw [e5]
  unfold bodyL
  cases j with
  | zero => rw [hm, List.getD_cons_zero, hl]
  | succ j =>
    rw [List.getD_cons_succ]
    by_cases e : j < m
    · rw [List.getD_eq_getElem?_getD, List.getElem?_append_left (by omega)]
      unfold openL
      rw [List.getElem?_take, if_pos (by rw [hm]; simpa using e), List.getElem?_drop, List.getD_eq_getElem?_getD, Nat.add_comm]
    · rw [hz (j + 1) (by omega) hj, List.getD_eq_getElem?_getD, List.getElem?_append_right (by omega), List.getElem?_replicate]
      split <;> rfl
theorem open_iff {b : List Int} (h : ListP b) (h6 : b.length = 6) (h4 : b.getD 0 0 ≤ 4) : packL (openL b) = b ↔ tagL 1 (b.take 5) = b.getD 5 0 ∧ ∀ i, (b.getD 0 0).toNat + 1 ≤ i → i < 5 → b.getD i 0 = 0 := by
  have hp := openL_pack h h6 h4
  have hb : b = b.take 5 ++ [b.getD 5 0] := by
    rw [← take_getD (by omega), List.take_of_length_le (by omega)]
  constructor
  · intro e
    have e1 : bodyL (openL b) = b.take 5 := by rw [← packL_take hp.2, e]
    refine ⟨?_, fun i hi h5 => ?_⟩
    · have e2 : (packL (openL b)).getD 5 0 = b.getD 5 0 := by rw [e]
      rw [← e2, ← e1]
      unfold packL
      rw [List.getD_eq_getElem?_getD, List.getElem?_append_right (by rw [bodyL_len hp.2]; omega), bodyL_len hp.2]
      rfl
    · have e2 : (b.take 5).getD i 0 = b.getD i 0 := by simp [List.getD_eq_getElem?_getD, h5]
      have hl := openL_len h h6 h4
      rw [← e2, ← e1]
      unfold bodyL
      obtain ⟨i, rfl⟩ : ∃ k, i = k + 1 := ⟨i - 1, by omega⟩
      rw [List.getD_cons_succ, List.getD_eq_getElem?_getD, List.getElem?_append_right (by omega), List.getElem?_replicate]
      split <;> rfl
  · rintro ⟨e, hz⟩
    unfold packL
    rw [body_open h h6 h4 hz, e]
    exact hb.symm
end Go.Proofs.Ytedpkhboepahgaa
