/- Pieces: plain words. -/
import Derived.Test.YtkacopgfnkoifaaLists
namespace Go.Proofs.Ytkacopgfnkoifaa
/-- the number of pieces of n numbers with their count -/
def cutC (n : Nat) : Nat := (n + 3) / 3
def padL (xs : List Int) : List Int := (xs.length : Int) :: (xs ++ List.replicate (cutC xs.length * 3 - (xs.length + 1)) 0)
theorem cutC_ge (n : Nat) : n + 1 ≤ cutC n * 3 := by unfold cutC; omega
theorem cutC_le (n : Nat) : cutC n * 3 ≤ n + 3 := by unfold cutC; omega
theorem padL_len (xs : List Int) : (padL xs).length = cutC xs.length * 3 := by
  have := cutC_ge xs.length
  simp [padL]; omega
def pieceAt (all : List Int) (i : Nat) : List Int := (all.take ((i + 1) * 3)).drop (i * 3)
def chunks (all : List Int) (k : Nat) : List (List Int) := (List.range k).map fun i => pieceAt all i
theorem chunks_len (all : List Int) (k : Nat) : (chunks all k).length = k := by simp [chunks]
theorem chunks_step (all : List Int) (k : Nat) : chunks all (k + 1) = chunks all k ++ [pieceAt all k] := by simp [chunks, List.range_succ]
theorem pieceAt_len (all : List Int) (i : Nat) (h : (i + 1) * 3 ≤ all.length) : (pieceAt all i).length = 3 := by simp [pieceAt]; omega
/-- may it be cut? -/
def CutP (xs : List Int) : Prop := ListP xs ∧ cutC xs.length ≤ 5
/-- the pieces -/
noncomputable def cutL (xs : List Int) : List (List Int) := @ite _ (CutP xs) (Classical.propDecidable _) (chunks (padL xs) (cutC xs.length)) []
theorem cutL_yes {xs : List Int} (h : CutP xs) : cutL xs = chunks (padL xs) (cutC xs.length) := if_pos h
theorem cutL_no {xs : List Int} (h : ¬ CutP xs) : cutL xs = [] := if_neg h
end Go.Proofs.Ytkacopgfnkoifaa
