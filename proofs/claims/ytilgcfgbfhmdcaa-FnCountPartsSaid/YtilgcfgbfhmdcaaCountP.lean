/- Plain laws on counted assignments. -/
import Derived.Test.YtilgcfgbfhmdcaaAsgP
namespace Go.Proofs.Ytilgcfgbfhmdcaa
theorem sumTo_mono {g g' : Nat → Nat} : ∀ k, (∀ i, i < k → g i ≤ g' i) → sumTo g k ≤ sumTo g' k
  | 0, _ => Nat.le_refl _
  | k + 1, h => by
    rw [sumTo, sumTo]
    exact Nat.add_le_add (sumTo_mono k (fun i hi => h i (by omega))) (h k (by omega))
/-- more knowledge leaves fewer assignments -/
theorem cnt_mono (rows rows' : List (List Bool)) (n : Nat) (h : ∀ s r, s < n → r < n → may rows s r = true → may rows' s r = true) : ∀ d u, d ≤ n → cnt rows n d u ≤ cnt rows' n d u
  | 0, _, _ => Nat.le_refl _
  | d + 1, u, hd => by
    rw [cnt, cnt]
    refine sumTo_mono n fun i hi => ?_
    by_cases a : (may rows (n - (d + 1)) i && !u i) = true
    · rw [if_pos a]
      simp only [Bool.and_eq_true] at a
      rw [if_pos (by simp only [Bool.and_eq_true]; exact ⟨h _ _ (by omega) hi a.1, a.2⟩)]
      exact cnt_mono rows rows' n h d _ (by omega)
    · rw [if_neg a]; exact Nat.zero_le _
def factN : Nat → Nat
  | 0 => 1
  | k + 1 => factN k * (k + 1)
def fullT (n : Nat) : List (List Bool) := List.replicate n (List.replicate n true)
theorem cnt_full : ∀ n, n < 6 → cnt (fullT n) n n (fun _ => false) = factN n := by decide +kernel
theorem factN_le : ∀ n, n < 6 → factN n ≤ 120 := by decide +kernel
theorem full_grid (n : Nat) (h1 : 1 ≤ n) (h5 : n ≤ 5) : GridP (fullT n) := by
  refine ⟨by simp [fullT]; omega, fun i hi => ?_⟩
  simp only [fullT, List.length_replicate] at hi ⊢
  simp [List.getD_eq_getElem?_getD, hi]
theorem acount_full (n : Nat) (h1 : 1 ≤ n) (h5 : n ≤ 5) : acount (fullT n) = (factN n : Nat) := by
  rw [acount_yes (full_grid n h1 h5)]
  have e : (fullT n).length = n := by simp [fullT]
  rw [e, cnt_full n (by omega)]
theorem may_full (n s r : Nat) (hs : s < n) (hr : r < n) : may (fullT n) s r = true := by
  simp [may, fullT, List.getD_eq_getElem?_getD, hs, hr]
theorem acount_le {rows : List (List Bool)} (h : GridP rows) : acount rows ≤ (factN rows.length : Nat) := by
  rw [acount_yes h, ← cnt_full rows.length (by have := h.1; omega)]
  have := cnt_mono rows (fullT rows.length) rows.length (fun s r hs hr _ => may_full _ s r hs hr) rows.length (fun _ => false) (Nat.le_refl _)
  omega
theorem acount_nonneg {rows : List (List Bool)} (h : GridP rows) : 0 ≤ acount rows := by rw [acount_yes h]; omega
/-- the table in which each sender has its own receiver -/
def ownT (n : Nat) : List (List Bool) := (List.range n).map fun i => (List.replicate n false).set i true
def noneT (n : Nat) : List (List Bool) := List.replicate n (List.replicate n false)
theorem cnt_own : ∀ n, n < 6 → cnt (ownT n) n n (fun _ => false) = 1 := by decide +kernel
theorem cnt_none : ∀ n, n < 6 → n = 0 ∨ cnt (noneT n) n n (fun _ => false) = 0 := by decide +kernel
theorem own_grid (n : Nat) (h1 : 1 ≤ n) (h5 : n ≤ 5) : GridP (ownT n) := by
  refine ⟨by simp [ownT]; omega, fun i hi => ?_⟩
  simp only [ownT, List.length_map, List.length_range] at hi ⊢
  simp [List.getD_eq_getElem?_getD, hi]
theorem none_grid (n : Nat) (h1 : 1 ≤ n) (h5 : n ≤ 5) : GridP (noneT n) := by
  refine ⟨by simp [noneT]; omega, fun i hi => ?_⟩
  simp only [noneT, List.length_replicate] at hi ⊢
  simp [List.getD_eq_getElem?_getD, hi]
theorem acount_own (n : Nat) (h1 : 1 ≤ n) (h5 : n ≤ 5) : acount (ownT n) = 1 := by
  rw [acount_yes (own_grid n h1 h5)]
  have e : (ownT n).length = n := by simp [ownT]
  rw [e, cnt_own n (by omega)]; rfl
theorem acount_none (n : Nat) (h1 : 1 ≤ n) (h5 : n ≤ 5) : acount (noneT n) = 0 := by
  rw [acount_yes (none_grid n h1 h5)]
  have e : (noneT n).length = n := by simp [noneT]
  rcases cnt_none n (by omega) with h | h
  · omega
  · rw [e, h]; rfl
end Go.Proofs.Ytilgcfgbfhmdcaa
