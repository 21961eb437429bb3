/- Pieces: the plain laws. -/
import Derived.Test.YtkacopgfnkoifaaJoinP
namespace Go.Proofs.Ytkacopgfnkoifaa
theorem padL_in {xs : List Int} (h : CutP xs) (j : Nat) (hj : j < (padL xs).length) : 0 ≤ (padL xs).getD j 0 ∧ (padL xs).getD j 0 ≤ 990 := by
  unfold padL at hj ⊢
  cases j with
  | zero =>
    have := h.1.1
    simp; omega
  | succ j =>
    rw [List.getD_cons_succ]
    simp only [List.length_cons, List.length_append, List.length_replicate] at hj
    by_cases e : j < xs.length
    · rw [List.getD_eq_getElem?_getD, List.getElem?_append_left e, ← List.getD_eq_getElem?_getD]
      exact h.1.2 j e
    · rw [List.getD_eq_getElem?_getD, List.getElem?_append_right (by omega), List.getElem?_replicate]
      split <;> simp
theorem pieceAt_getD (a : List Int) (i j : Nat) (hj : j < 3) : (pieceAt a i).getD j 0 = a.getD (i * 3 + j) 0 := by
  unfold pieceAt
  rw [List.getD_eq_getElem?_getD, List.getElem?_drop, List.getElem?_take, if_pos (by omega), ← List.getD_eq_getElem?_getD]
theorem cutL_len {xs : List Int} (h : CutP xs) : (cutL xs).length = cutC xs.length := by rw [cutL_yes h, chunks_len]
theorem cutL_row {xs : List Int} (h : CutP xs) (i : Nat) (hi : i < cutC xs.length) : (cutL xs).getD i [] = pieceAt (padL xs) i := by
  rw [cutL_yes h, List.getD_eq_getElem?_getD]
  simp [chunks, hi]
theorem cutL_one {xs : List Int} (h : CutP xs) (i : Nat) (hi : i < cutC xs.length) : OneP ((cutL xs).getD i []) := by
  have hl : (pieceAt (padL xs) i).length = 3 := pieceAt_len _ _ (by rw [padL_len]; omega)
  rw [cutL_row h i hi]
  refine ⟨hl, by omega, fun j hj => ?_⟩
  rw [hl] at hj
  rw [pieceAt_getD _ _ _ hj]
  exact padL_in h _ (by rw [padL_len]; omega)
theorem cutL_full {xs : List Int} (h : CutP xs) : FullP (cutL xs) := by
  refine fullP_iff.2 ⟨by rw [cutL_len h]; have := h.2; unfold cutC at *; omega, fun i hi => cutL_one h i (by rw [← cutL_len h]; exact hi)⟩
/-- the pieces of a letter, one behind the other -/
theorem cutL_cat {xs : List Int} (h : CutP xs) : catR (cutL xs) (cutL xs).length = padL xs := by
  have hf := cutL_full h
  refine chunks_inj (k := (cutL xs).length) hf.cat (by rw [padL_len, cutL_len h]) ?_
  rw [chunks_cat fun i hi => (hf.row i hi).1, cutL_len h]
  exact cutL_yes h
theorem cutL_join {xs : List Int} (h : CutP xs) : JoinP (cutL xs) ∧ joinR (cutL xs) = xs := by
  have hf := cutL_full h
  have hc := cutL_cat h
  have hN : catN (cutL xs) = xs.length := by
    unfold catN; rw [hc]; unfold padL; simp
  have hj : joinR (cutL xs) = xs := by
    unfold joinR; rw [hc, hN]; unfold padL; simp
  refine ⟨joinP_iff.2 ⟨hf, ?_, by rw [hj]⟩, hj⟩
  rw [hN, cutL_len h]
  have := cutC_ge xs.length
  omega
/-- without a loss nothing is repaired -/
theorem repL_full {rows : List (List Int)} {par : List Int} (h : FullP rows) (hp : OneP par) : RepP rows par ∧ repL rows par = rows := by
  have hr : RepP rows par := ⟨h.1, by rw [h.2]; omega, hp⟩
  refine ⟨hr, ?_⟩
  rw [repL_yes hr]
  refine List.ext_getElem (by simp) fun i h1 h2 => ?_
  simp only [List.getElem_map, List.getElem_range]
  have := (h.row i h2).1
  unfold repRow
  rw [if_neg (by omega)]
  simp [List.getD_eq_getElem?_getD, List.getElem?_eq_getElem h2]
theorem getD_set (rows : List (List Int)) (k i : Nat) (r : List Int) (hk : k < rows.length) : (rows.set k r).getD i [] = if i = k then r else rows.getD i [] := by
  rw [List.getD_eq_getElem?_getD]
  split
  · rename_i e; subst e; rw [List.getElem?_set_self hk]; rfl
  · rename_i e; rw [List.getElem?_set_ne (Ne.symm e), ← List.getD_eq_getElem?_getD]
theorem emptN_set {rows : List (List Int)} (h : ∀ i, i < rows.length → (rows.getD i []).length ≠ 0) (k : Nat) (hk : k < rows.length) : ∀ n, n ≤ rows.length → emptN (rows.set k []) n = if k < n then 1 else 0 := by
  intro n
  induction n with
  | zero => intro _; rfl
  | succ n ih =>
    intro hn
    have ih' := ih (by omega)
    rw [emptN, ih', getD_set _ _ _ _ hk]
    by_cases e : n = k
    · subst e; simp
    · rw [if_neg e, if_neg (h n (by omega))]
      by_cases e2 : k < n
      · rw [if_pos e2, if_pos (by omega)]
      · rw [if_neg e2, if_neg (by omega)]
theorem sumR_set {rows : List (List Int)} (k : Nat) (hk : k < rows.length) (j : Nat) : ∀ n, sumR rows j n = sumR (rows.set k []) j n + if k < n then (if j < (rows.getD k []).length then (rows.getD k []).getD j 0 else 0) else 0 := by
  intro n
  induction n with
  | zero => simp [sumR]
  | succ n ih =>
    rw [sumR, sumR, ih, getD_set _ _ _ _ hk]
    by_cases e : n = k
    · subst e
      simp
    · rw [if_neg e]
      by_cases e2 : k < n
      · rw [if_pos e2, if_pos (show k < n + 1 by omega)]; omega
      · rw [if_neg e2, if_neg (show ¬ k < n + 1 by omega)]; omega
theorem lost_pieces {rows : List (List Int)} (h : FullP rows) (k : Nat) (hk : k < rows.length) : PiecesP (rows.set k []) := by
  refine ⟨by rw [List.length_set]; exact h.1.1, fun i hi => ?_⟩
  rw [List.length_set] at hi
  rw [getD_set _ _ _ _ hk]
  split
  · exact .inl rfl
  · exact .inr (h.row i hi)
theorem parity_one {rows : List (List Int)} (h : FullP rows) : OneP (parityL rows) := by
  rw [parityL_yes h]; exact combR_one zero_one _
theorem zero3 (j : Nat) (hj : j < 3) : (List.replicate 3 (0 : Int)).getD j 0 = 0 := by
  have : j = 0 ∨ j = 1 ∨ j = 2 := by omega
  rcases this with rfl | rfl | rfl <;> rfl
theorem parity_getD {rows : List (List Int)} (h : FullP rows) (j : Nat) (hj : j < 3) : (parityL rows).getD j 0 = sumR rows j rows.length % 991 := by
  rw [parityL_yes h, combR_getD j (by simpa using hj) (by rw [zero3 j hj]; omega), zero3 j hj]
  congr 1
  omega
/-- a lost piece comes back -/
theorem repair_one {rows : List (List Int)} (h : FullP rows) (k : Nat) (hk : k < rows.length) : RepP (rows.set k []) (parityL rows) ∧ repL (rows.set k []) (parityL rows) = rows := by
  have hne : ∀ i, i < rows.length → (rows.getD i []).length ≠ 0 := fun i hi => by rw [(h.row i hi).1]; omega
  have he := emptN_set hne k hk rows.length (Nat.le_refl _)
  rw [if_pos hk] at he
  have hr : RepP (rows.set k []) (parityL rows) := ⟨lost_pieces h k hk, by rw [List.length_set, he]; omega, parity_one h⟩
  refine ⟨hr, ?_⟩
  rw [repL_yes hr, List.length_set]
  refine List.ext_getElem (by simp) fun i h1 h2 => ?_
  simp only [List.getElem_map, List.getElem_range]
  have e3 : rows[i] = rows.getD i [] := by simp [List.getD_eq_getElem?_getD, List.getElem?_eq_getElem h2]
  rw [e3]
  unfold repRow
  rw [getD_set _ _ _ _ hk]
  by_cases e : i = k
  · subst e
    rw [if_pos rfl, if_pos (by rfl), List.length_set]
    have h3 := (h.row i hk)
    have hp := parity_one h
    refine List.ext_getElem (by rw [combR_len, hp.1, h3.1]) fun j g1 g2 => ?_
    rw [h3.1] at g2
    have a1 : (combR (-1) (parityL rows) (rows.set i []) rows.length).getD j 0 = ((rows.getD i []).getD j 0) := by
      rw [combR_getD j (by rw [hp.1]; exact g2) (hp.2.2 j (by rw [hp.1]; exact g2)), parity_getD h j g2]
      have hs := sumR_set i hk j rows.length
      rw [if_pos hk, if_pos (by rw [h3.1]; exact g2)] at hs
      rw [hs]
      have hb := h3.2.2 j (by rw [h3.1]; exact g2)
      generalize sumR (rows.set i []) j rows.length = s
      generalize (rows.getD i []).getD j 0 = y at *
      omega
    have a2 := a1
    rw [List.getD_eq_getElem?_getD, List.getElem?_eq_getElem g1, Option.getD_some] at a2
    rw [a2, List.getD_eq_getElem?_getD, List.getElem?_eq_getElem (by rw [h3.1]; exact g2), Option.getD_some]
  · rw [if_neg e, if_neg (hne i h2)]
/-- two lost pieces don't -/
theorem repair_two {rows : List (List Int)} (h : FullP rows) (k l : Nat) (hk : k < rows.length) (hl : l < rows.length) (hkl : k ≠ l) (par : List Int) : ¬ RepP ((rows.set k []).set l []) par := by
  intro hr
  have h2 := hr.2.1
  rw [List.length_set, List.length_set] at h2
  have key : ∀ n, n ≤ rows.length → emptN ((rows.set k []).set l []) n = (if k < n then 1 else 0) + (if l < n then 1 else 0) := by
    intro n
    induction n with
    | zero => intro _; rfl
    | succ n ih =>
      intro hn
      rw [emptN, ih (by omega), getD_set _ _ _ _ (by rw [List.length_set]; exact hl), getD_set _ _ _ _ hk]
      have h3 := (h.row n (by omega)).1
      by_cases e : n = l
      · subst e
        rw [if_pos rfl, show (if ([] : List Int).length = 0 then 1 else 0) = 1 from rfl]
        (repeat' split) <;> omega
      · rw [if_neg e]
        by_cases e2 : n = k
        · subst e2
          rw [if_pos rfl, show (if ([] : List Int).length = 0 then 1 else 0) = 1 from rfl]
          (repeat' split) <;> omega
        · rw [if_neg e2, if_neg (show ¬ (rows.getD n []).length = 0 by omega)]
          (repeat' split) <;> omega
  have := key rows.length (Nat.le_refl _)
  rw [if_pos hk, if_pos hl] at this
  omega
/-- the order of the pieces does not matter -/
theorem sumR_rev (rows : List (List Int)) (j : Nat) : ∀ n, n ≤ rows.length → sumR rows.reverse j n = sumR rows j rows.length - sumR rows j (rows.length - n) := by
  intro n
  induction n with
  | zero => intro _; simp [sumR]
  | succ n ih =>
    intro hn
    rw [sumR, ih (by omega)]
    have e1 : rows.reverse.getD n [] = rows.getD (rows.length - (n + 1)) [] := by
      rw [List.getD_eq_getElem?_getD, List.getElem?_reverse (by omega), ← List.getD_eq_getElem?_getD]
      congr 1
      omega
    rw [e1]
    have e2 : rows.length - n = (rows.length - (n + 1)) + 1 := by omega
    rw [e2, sumR]; omega
theorem full_rev {rows : List (List Int)} (h : FullP rows) : FullP rows.reverse := by
  have h2 := fullP_iff.1 h
  refine fullP_iff.2 ⟨by rw [List.length_reverse]; exact h2.1, fun i hi => ?_⟩
  rw [List.length_reverse] at hi
  have e1 : rows.reverse.getD i [] = rows.getD (rows.length - 1 - i) [] := by
    rw [List.getD_eq_getElem?_getD, List.getElem?_reverse hi, ← List.getD_eq_getElem?_getD]
  rw [e1]
  exact h2.2 _ (by omega)
theorem parity_rev {rows : List (List Int)} (h : FullP rows) : parityL rows.reverse = parityL rows := by
  have hr := full_rev h
  refine List.ext_getElem (by rw [(parity_one hr).1, (parity_one h).1]) fun j g1 g2 => ?_
  have g3 : j < 3 := by rw [(parity_one h).1] at g2; exact g2
  have a1 := parity_getD hr j g3
  have a2 := parity_getD h j g3
  rw [List.length_reverse, sumR_rev rows j rows.length (Nat.le_refl _), Nat.sub_self] at a1
  simp only [sumR, Int.sub_zero] at a1
  rw [← a2] at a1
  rw [List.getD_eq_getElem?_getD, List.getElem?_eq_getElem g1, List.getD_eq_getElem?_getD, List.getElem?_eq_getElem g2] at a1
  simpa using a1
end Go.Proofs.Ytkacopgfnkoifaa
