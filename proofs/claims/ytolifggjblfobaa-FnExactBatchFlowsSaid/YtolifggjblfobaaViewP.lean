/- Views: plain words. -/
import Derived.Test.YtolifggjblfobaaFlows
namespace Go.Proofs.Ytolifggjblfobaa
/-- the names seen in the first i flows, in the order of appearance -/
def addN (ns : List Int) (x : Int) : List Int := if x ∈ ns then ns else ns ++ [x]
def seen (fs : List F3) : Nat → List Int
  | 0 => []
  | i + 1 => addN (seen fs i) (fs.getD i f0).2.2
def viewAt (fs : List F3) (i : Nat) : F3 := ((fs.getD i f0).1, (fs.getD i f0).2.1, ((seen fs i).idxOf (fs.getD i f0).2.2 : Nat))
def viewR (fs : List F3) (i : Nat) : List F3 := (List.range i).map (viewAt fs)
theorem viewR_len (fs : List F3) (i : Nat) : (viewR fs i).length = i := by simp [viewR]
theorem viewR_step (fs : List F3) (i : Nat) : viewR fs (i + 1) = viewR fs i ++ [viewAt fs i] := by simp [viewR, List.range_succ]
theorem addN_yes {ns : List Int} {x : Int} (h : x ∈ ns) : addN ns x = ns := if_pos h
theorem addN_no {ns : List Int} {x : Int} (h : ¬ x ∈ ns) : addN ns x = ns ++ [x] := if_neg h
theorem seen_len (fs : List F3) (i : Nat) : (seen fs i).length ≤ i := by
  induction i with
  | zero => exact Nat.le_refl _
  | succ i ih =>
    rw [seen]
    unfold addN
    split
    · omega
    · simp; omega
/-- valid flows -/
def FlowP (f : F3) : Prop := (-1 ≤ f.1 ∧ f.1 ≤ 7) ∧ (-1 ≤ f.2.1 ∧ f.2.1 ≤ 7) ∧ 0 ≤ f.2.2
def FlowsP (fs : List F3) : Prop := fs.length ≤ 16 ∧ ∀ i, i < fs.length → FlowP (fs.getD i f0)
/-- names within the range of an int -/
def Wf (fs : List F3) : Prop := ∀ i, i < fs.length → (fs.getD i f0).2.2 ≤ 9223372036854775807
noncomputable def viewL (fs : List F3) : List F3 := @ite _ (FlowsP fs) (Classical.propDecidable _) (viewR fs fs.length) []
theorem viewL_yes {fs : List F3} (h : FlowsP fs) : viewL fs = viewR fs fs.length := if_pos h
theorem viewL_no {fs : List F3} (h : ¬ FlowsP fs) : viewL fs = [] := if_neg h
end Go.Proofs.Ytolifggjblfobaa
