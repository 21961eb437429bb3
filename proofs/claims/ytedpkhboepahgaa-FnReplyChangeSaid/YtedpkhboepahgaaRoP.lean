/- A reply with its keys turned round, or one number of its body changed: plain laws. -/
import Derived.Test.YtedpkhboepahgaaROpen
namespace Go.Proofs.Ytedpkhboepahgaa
theorem rev_getD {xs : List Int} {j : Nat} (hj : j < xs.length) : xs.reverse.getD j 0 = xs.getD (xs.length - 1 - j) 0 := by
  simp only [List.getD_eq_getElem?_getD]
  rw [List.getElem?_reverse hj]
theorem path_rev {ks : List Int} (h : PathP ks) : PathP ks.reverse := by
  refine ⟨fun i hi => ?_, by rw [List.length_reverse]; exact h.2⟩
  rw [List.length_reverse] at hi
  rw [rev_getD hi]
  exact h.1 _ (by omega)
theorem key_rev {ks b : List Int} (h : KeyP ks b) : KeyP ks.reverse b := ⟨path_rev h.1, h.2⟩
theorem roR_rev {ks b : List Int} (h : KeyP ks b) : roR ks.reverse b = roR ks b := by rw [roR_yes (key_rev h), roR_yes h, onAll_rev]
theorem roP_rev {ks b : List Int} (h : RoP ks b) : RoP ks.reverse b := ⟨key_rev h.1, by rw [onAll_rev]; exact h.2⟩
/-- number by number -/
def sumS (ks : List Int) (j : Nat) : Int := (ks.map fun k => strm k j).sum
theorem onAll_getD {xs : List Int} (h : ListP xs) (ks : List Int) {j : Nat} (hj : j < xs.length) : (onAll xs ks).getD j 0 = (xs.getD j 0 + sumS ks j) % 991 := by
  induction ks generalizing xs with
  | nil =>
    have := h.2 j hj
    simp only [onAll, List.foldl_nil, sumS, List.map_nil, List.sum_nil]
    omega
  | cons k ks ih =>
    have e : onAll xs (k :: ks) = onAll (onL xs k) ks := rfl
    rw [e, ih (onL_list h.1 k) (by rw [onL_len]; exact hj), onL_getD hj]
    simp only [sumS, List.map_cons, List.sum_cons]
    omega
theorem abs_set {xs : List Int} : ∀ {t : Int} {k : Nat} {b : Int}, 0 ≤ t ∧ t ≤ 990 → k < xs.length → 0 ≤ b ∧ b ≤ 990 → 0 ≤ xs.getD k 0 ∧ xs.getD k 0 ≤ 990 → absL t (xs.set k b) = absL t xs → b = xs.getD k 0 := by
  induction xs with
  | nil => intro t k b _ hk; simp at hk
  | cons x xs ih =>
    intro t k b ht hk hb hx h
    cases k with
    | zero =>
      have h' : absL ((613 * t + b + 1) % 991) xs = absL ((613 * t + x + 1) % 991) xs := h
      have h2 := absL_inj (a := (613 * t + b + 1) % 991) (b := (613 * t + x + 1) % 991) (by omega) (by omega) xs h'
      have hx' : 0 ≤ x ∧ x ≤ 990 := hx
      have := abs_inj_x (a := t) hb hx' h2
      simpa using this
    | succ k =>
      have := ih (t := (613 * t + x + 1) % 991) (k := k) (b := b) (by omega) (by simpa using hk) hb (by simpa using hx) h
      simpa using this
theorem set_getD {xs : List Int} {k j : Nat} {z : Int} (hk : k < xs.length) : (xs.set k z).getD j 0 = if j = k then z else xs.getD j 0 := by
  simp only [List.getD_eq_getElem?_getD, List.getElem?_set]
  by_cases e : k = j
  · subst e; simp [hk]
  · rw [if_neg e, if_neg (fun h => e h.symm)]
theorem onAll_set {xs : List Int} (h : ListP xs) (ks : List Int) {k : Nat} (hk : k < xs.length) {z : Int} (hz : 0 ≤ z ∧ z ≤ 990) :
    onAll (xs.set k z) ks = (onAll xs ks).set k ((z + sumS ks k) % 991) := by
  have hs : ListP (xs.set k z) := by
    refine ⟨by simpa using h.1, fun j hj => ?_⟩
    rw [List.length_set] at hj
    rw [set_getD hk]
    split
    · exact hz
    · exact h.2 j hj
  refine ext_getD (by rw [onAll_len, List.length_set, List.length_set, onAll_len]) fun j hj => ?_
  rw [onAll_len, List.length_set] at hj
  rw [onAll_getD hs ks (by rw [List.length_set]; exact hj), set_getD hk, set_getD (by rw [onAll_len]; exact hk)]
  split
  · rename_i e; rw [e]
  · exact (onAll_getD h ks hj).symm
/-- a changed number: not opened -/
theorem change_no {ks b : List Int} (h : RoP ks b) {k : Nat} (hk : k < 6) {z : Int} (hz : 0 ≤ z ∧ z ≤ 990) (hne : z ≠ b.getD k 0) : ¬ RoP ks (b.set k z) := by
  intro e
  have hl := h.1.2.2
  have hb := h.1.2.1
  have h1 := h.2
  have h2 := e.2
  rw [onAll_set hb ks (by omega) hz] at h2
  have hx := hb.2 k (by omega)
  have ha := onAll_getD hb ks (j := k) (by omega)
  obtain ⟨A, hA⟩ : ∃ A, onAll b ks = A := ⟨_, rfl⟩
  rw [hA] at h1 h2 ha
  obtain ⟨y, hy⟩ : ∃ y, (z + sumS ks k) % 991 = y := ⟨_, rfl⟩
  rw [hy] at h2
  have hyne : y ≠ A.getD k 0 := by omega
  have t1 := ((open_iff h1.1.1 h1.1.2 h1.2.1).1 h1.2.2).1
  have t2 := ((open_iff h2.1.1 h2.1.2 h2.2.1).1 h2.2.2).1
  have hAl := h1.1.2
  rw [set_getD (by omega)] at t2
  by_cases e5 : k = 5
  · subst e5
    rw [if_pos rfl, List.take_set_of_le (Nat.le_refl _)] at t2
    exact hyne (by rw [← t1, ← t2])
  · rw [if_neg (fun h => e5 h.symm), List.take_set] at t2
    rw [← t1] at t2
    have l5 : (A.take 5).length = 5 := by simp; omega
    have g5 : (A.take 5).getD k 0 = A.getD k 0 := by simp [List.getD_eq_getElem?_getD, show k < 5 by omega]
    unfold tagL at t2
    rw [List.length_set] at t2
    have := abs_set (t := tag0 1 (A.take 5).length) (k := k) (b := y) (tag0_range _ _) (by omega) (by omega) (by rw [g5]; exact h1.1.1.2 k (by omega)) t2
    rw [g5] at this
    exact hyne this
end Go.Proofs.Ytedpkhboepahgaa
