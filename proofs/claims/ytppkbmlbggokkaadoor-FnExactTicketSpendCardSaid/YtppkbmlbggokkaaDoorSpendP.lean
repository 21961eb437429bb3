/- Spending: plain words and laws. -/
import Derived.Test.YtppkbmlbggokkaaDoorAuditS
import Derived.Test.YtppkbmlbggokkaaDoorTickN
namespace Go.Proofs.YtppkbmlbggokkaaDoor
/-- where x goes in a list in order; the list with x -/
def posL (xs : List Int) (x : Int) : Nat := xs.countP fun y => decide (y < x)
def insL (xs : List Int) (x : Int) : List Int := xs.take (posL xs x) ++ x :: xs.drop (posL xs x)
def GoodP (xs : List Int) (p s g : Int) : Prop := (tkB p s g = true ∧ ¬ s ∈ xs) ∧ xs.length < 20
def SpendP (xs : List Int) (p s g : Int) : Prop := SpentP xs ∧ GoodP xs p s g
open Classical in
noncomputable def spL (xs : List Int) (p s g : Int) : List Int := if SpentP xs then (if GoodP xs p s g then insL xs s else xs) else []
theorem spL_bad {xs : List Int} {p s g : Int} (h : ¬ SpentP xs) : spL xs p s g = [] := if_neg h
theorem spL_no {xs : List Int} {p s g : Int} (h : SpentP xs) (k : ¬ GoodP xs p s g) : spL xs p s g = xs := by unfold spL; rw [if_pos h, if_neg k]
theorem spL_yes {xs : List Int} {p s g : Int} (h : SpentP xs) (k : GoodP xs p s g) : spL xs p s g = insL xs s := by unfold spL; rw [if_pos h, if_pos k]
theorem posL_le (xs : List Int) (x : Int) : posL xs x ≤ xs.length := List.countP_le_length
theorem insL_len (xs : List Int) (x : Int) : (insL xs x).length = xs.length + 1 := by
  have := posL_le xs x
  unfold insL
  simp; omega
theorem mem_insL {xs : List Int} {x y : Int} : y ∈ insL xs x ↔ y = x ∨ y ∈ xs := by
  unfold insL
  rw [List.mem_append, List.mem_cons]
  constructor
  · rintro (h | h | h)
    · exact .inr (List.mem_of_mem_take h)
    · exact .inl h
    · exact .inr (List.mem_of_mem_drop h)
  · rintro (h | h)
    · exact .inr (.inl h)
    · rw [← List.take_append_drop (posL xs x) xs, List.mem_append] at h
      rcases h with h | h
      · exact .inl h
      · exact .inr (.inr h)
theorem spent_sorted {xs : List Int} (h : SpentP xs) : xs.Pairwise (· < ·) := by
  have step : ∀ j, j < xs.length → ∀ i, i < j → xs.getD i 0 < xs.getD j 0 := by
    intro j
    induction j with
    | zero => intro _ i hi; omega
    | succ j ih =>
      intro hj i hi
      have h1 := (h.2 (j + 1) hj).2.2 (by omega)
      rw [Nat.add_sub_cancel] at h1
      by_cases e : i = j
      · subst e; exact h1
      · exact Int.lt_trans (ih (by omega) i (by omega)) h1
  refine List.pairwise_iff_getElem.2 fun i j hi hj hij => ?_
  have := step j hj i hij
  simpa [List.getD_eq_getElem?_getD, List.getElem?_eq_getElem hi, List.getElem?_eq_getElem hj] using this
theorem sorted_ext : ∀ {xs ys : List Int}, xs.Pairwise (· < ·) → ys.Pairwise (· < ·) → (∀ a, a ∈ xs ↔ a ∈ ys) → xs = ys
  | [], [], _, _, _ => rfl
  | [], y :: ys, _, _, h => absurd ((h y).2 (by simp)) (by simp)
  | x :: xs, [], _, _, h => absurd ((h x).1 (by simp)) (by simp)
  | x :: xs, y :: ys, hx, hy, h => by
    have hx' := List.pairwise_cons.1 hx
    have hy' := List.pairwise_cons.1 hy
    have e : x = y := by
      rcases List.mem_cons.1 ((h x).1 (by simp)) with e | hm
      · exact e
      · rcases List.mem_cons.1 ((h y).2 (by simp)) with e | hm2
        · exact e.symm
        · have := hy'.1 x hm
          have := hx'.1 y hm2
          omega
    subst e
    rw [sorted_ext hx'.2 hy'.2 fun a => ?_]
    constructor
    · intro ha
      rcases List.mem_cons.1 ((h a).1 (List.mem_cons_of_mem _ ha)) with e | hm
      · have := hx'.1 a ha; omega
      · exact hm
    · intro ha
      rcases List.mem_cons.1 ((h a).2 (List.mem_cons_of_mem _ ha)) with e | hm
      · have := hy'.1 a ha; omega
      · exact hm
/-- ahead of its place what is less, behind it what is not -/
theorem posL_iff : ∀ {xs : List Int} (x : Int), xs.Pairwise (· < ·) → ∀ j, j < xs.length → (xs.getD j 0 < x ↔ j < posL xs x)
  | [], _, _, j, hj => by simp at hj
  | y :: t, x, h, j, hj => by
    have h' := List.pairwise_cons.1 h
    unfold posL
    rw [List.countP_cons]
    by_cases e : y < x
    · cases j with
      | zero => simp [e]
      | succ j =>
        have := posL_iff x h'.2 j (by simpa using hj)
        unfold posL at this
        simp only [List.getD_cons_succ, e, decide_true, if_true]
        omega
    · have z : t.countP (fun y => decide (y < x)) = 0 := by
        rw [List.countP_eq_zero]
        intro a ha
        have := h'.1 a ha
        simp; omega
      rw [z]
      cases j with
      | zero => simp [e]
      | succ j =>
        have hj' : j < t.length := by simpa using hj
        have hm : t.getD j 0 ∈ t := by
          rw [List.getD_eq_getElem?_getD, List.getElem?_eq_getElem hj']; exact List.getElem_mem _
        have := h'.1 _ hm
        simp only [List.getD_cons_succ, e, decide_false, Bool.false_eq_true, if_false]
        omega
theorem mem_take_pos {xs : List Int} (x : Int) (h : xs.Pairwise (· < ·)) {a : Int} (ha : a ∈ xs.take (posL xs x)) : a < x := by
  obtain ⟨i, hi, rfl⟩ := List.mem_iff_getElem.1 ha
  rw [List.length_take] at hi
  have hp := posL_le xs x
  have := (posL_iff x h i (by omega)).2 (by omega)
  rw [List.getElem_take]
  simpa [List.getD_eq_getElem?_getD, List.getElem?_eq_getElem (show i < xs.length by omega)] using this
theorem mem_drop_pos {xs : List Int} (x : Int) (h : xs.Pairwise (· < ·)) {a : Int} (ha : a ∈ xs.drop (posL xs x)) : x ≤ a := by
  obtain ⟨i, hi, rfl⟩ := List.mem_iff_getElem.1 ha
  rw [List.length_drop] at hi
  have := (posL_iff x h (posL xs x + i) (by omega))
  rw [List.getElem_drop]
  have e : xs.getD (posL xs x + i) 0 = xs[posL xs x + i] := by simp [List.getD_eq_getElem?_getD, List.getElem?_eq_getElem (show posL xs x + i < xs.length by omega)]
  rw [e] at this
  omega
theorem insL_sorted {xs : List Int} {x : Int} (h : xs.Pairwise (· < ·)) (hx : ¬ x ∈ xs) : (insL xs x).Pairwise (· < ·) := by
  unfold insL
  rw [List.pairwise_append]
  refine ⟨h.sublist (List.take_sublist _ _), ?_, ?_⟩
  · refine List.pairwise_cons.2 ⟨fun a ha => ?_, h.sublist (List.drop_sublist _ _)⟩
    have h1 := mem_drop_pos x h ha
    have : a ≠ x := fun e => hx (e ▸ List.mem_of_mem_drop ha)
    omega
  · intro a ha b hb
    have h1 := mem_take_pos x h ha
    rcases List.mem_cons.1 hb with rfl | hb
    · exact h1
    · have := mem_drop_pos x h hb; omega
theorem spent_of {xs : List Int} (h : xs.Pairwise (· < ·)) (hl : xs.length ≤ 20) (hn : ∀ a, a ∈ xs → 0 ≤ a ∧ a ≤ 990) : SpentP xs := by
  refine ⟨hl, fun i hi => ?_⟩
  have hm : xs.getD i 0 ∈ xs := by rw [List.getD_eq_getElem?_getD, List.getElem?_eq_getElem hi]; exact List.getElem_mem _
  refine ⟨(hn _ hm).1, (hn _ hm).2, fun h0 => ?_⟩
  have := List.pairwise_iff_getElem.1 h (i - 1) i (by omega) hi (by omega)
  simpa [List.getD_eq_getElem?_getD, List.getElem?_eq_getElem hi, List.getElem?_eq_getElem (show i - 1 < xs.length by omega)] using this
theorem spent_mem {xs : List Int} (h : SpentP xs) {a : Int} (ha : a ∈ xs) : 0 ≤ a ∧ a ≤ 990 := by
  obtain ⟨i, hi, rfl⟩ := List.mem_iff_getElem.1 ha
  have := h.2 i hi
  unfold OkAt at this
  simp only [List.getD_eq_getElem?_getD, List.getElem?_eq_getElem hi, Option.getD_some] at this
  exact ⟨this.1, this.2.1⟩
theorem tkB_num {p s g : Int} (h : tkB p s g = true) : 0 ≤ s ∧ s ≤ 990 := by
  refine numB_iff.1 (Classical.byContradiction fun e => ?_)
  rw [tkB_s (by simpa using e)] at h
  cases h
theorem spent_ins {xs : List Int} {p s g : Int} (h : SpentP xs) (k : GoodP xs p s g) : SpentP (insL xs s) := by
  refine spent_of (insL_sorted (spent_sorted h) k.1.2) (by rw [insL_len]; have := k.2; omega) fun a ha => ?_
  rcases mem_insL.1 ha with rfl | hm
  · exact tkB_num k.1.1
  · exact spent_mem h hm
/-- twice: no -/
theorem spent_twice {xs : List Int} {p s g : Int} : ¬ GoodP (insL xs s) p s g := fun e => e.1.2 (mem_insL.2 (.inl rfl))
/-- two tickets in either order -/
theorem ins_comm {xs : List Int} {s t : Int} (h : xs.Pairwise (· < ·)) (hs : ¬ s ∈ xs) (ht : ¬ t ∈ xs) (hst : s ≠ t) : insL (insL xs s) t = insL (insL xs t) s := by
  refine sorted_ext (insL_sorted (insL_sorted h hs) fun e => ?_) (insL_sorted (insL_sorted h ht) fun e => ?_) fun a => ?_
  · rcases mem_insL.1 e with e | e
    · exact hst e.symm
    · exact ht e
  · rcases mem_insL.1 e with e | e
    · exact hst e
    · exact hs e
  · simp only [mem_insL]
    constructor
    · rintro (e | e | e)
      · exact .inr (.inl e)
      · exact .inl e
      · exact .inr (.inr e)
    · rintro (e | e | e)
      · exact .inr (.inl e)
      · exact .inl e
      · exact .inr (.inr e)
end Go.Proofs.YtppkbmlbggokkaaDoor
