/- Assignments counted: plain words. -/
import Derived.Test.YtilgcfgbfhmdcaaPlain
namespace Go.Proofs.Ytilgcfgbfhmdcaa
/-- may sender s write to receiver r? -/
def may (rows : List (List Bool)) (s r : Nat) : Bool := (rows.getD s []).getD r false
def sumTo (g : Nat → Nat) : Nat → Nat
  | 0 => 0
  | k + 1 => sumTo g k + g k
/-- the assignments of the last d of n senders to receivers that are not used -/
def cnt (rows : List (List Bool)) (n : Nat) : Nat → (Nat → Bool) → Nat
  | 0, _ => 1
  | d + 1, u => sumTo (fun r => if (may rows (n - (d + 1)) r && !u r) = true then cnt rows n d (fun x => x == r || u x) else 0) n
/-- a valid table -/
def GridP (rows : List (List Bool)) : Prop := (1 ≤ rows.length ∧ rows.length ≤ 5) ∧ ∀ i, i < rows.length → (rows.getD i []).length = rows.length
theorem sumTo_le {g : Nat → Nat} {b : Nat} : ∀ k, (∀ i, i < k → g i ≤ b) → sumTo g k ≤ k * b
  | 0, _ => by simp [sumTo]
  | k + 1, h => by
    have h1 := sumTo_le (g := g) k (fun i hi => h i (by omega))
    have h2 := h k (by omega)
    rw [sumTo, Nat.add_mul]
    omega
theorem sumTo_congr {g g' : Nat → Nat} : ∀ k, (∀ i, i < k → g i = g' i) → sumTo g k = sumTo g' k
  | 0, _ => rfl
  | k + 1, h => by rw [sumTo, sumTo, sumTo_congr k (fun i hi => h i (by omega)), h k (by omega)]
theorem cnt_le (rows : List (List Bool)) (n : Nat) : ∀ d u, cnt rows n d u ≤ n ^ d
  | 0, _ => by simp [cnt]
  | d + 1, u => by
    rw [cnt, Nat.pow_succ, Nat.mul_comm]
    refine sumTo_le n fun i _ => ?_
    split
    · exact cnt_le rows n d _
    · exact Nat.zero_le _
theorem cnt_small (rows : List (List Bool)) (n d : Nat) (u : Nat → Bool) (hn : n ≤ 5) (hd : d ≤ n) : cnt rows n d u ≤ 3125 := by
  refine Nat.le_trans (cnt_le rows n d u) ?_
  have h1 : n ^ d ≤ 5 ^ d := Nat.pow_le_pow_left hn d
  have h2 : 5 ^ d ≤ 5 ^ 5 := Nat.pow_le_pow_right (by omega) (by omega)
  have h3 : 5 ^ 5 = 3125 := by decide
  omega
theorem cnt_congr (rows : List (List Bool)) (n : Nat) : ∀ d u u', (∀ x, x < n → u x = u' x) → cnt rows n d u = cnt rows n d u'
  | 0, _, _, _ => rfl
  | d + 1, u, u', h => by
    rw [cnt, cnt]
    refine sumTo_congr n fun i hi => ?_
    rw [h i hi]
    split
    · exact cnt_congr rows n d _ _ fun x hx => by simp only [h x hx]
    · rfl
/-- what AssignCount answers -/
noncomputable def acount (rows : List (List Bool)) : Int := @ite _ (GridP rows) (Classical.propDecidable _) (cnt rows rows.length rows.length (fun _ => false) : Nat) (-1)
theorem acount_yes {rows : List (List Bool)} (h : GridP rows) : acount rows = (cnt rows rows.length rows.length (fun _ => false) : Nat) := if_pos h
theorem acount_no {rows : List (List Bool)} (h : ¬ GridP rows) : acount rows = -1 := if_neg h
end Go.Proofs.Ytilgcfgbfhmdcaa
