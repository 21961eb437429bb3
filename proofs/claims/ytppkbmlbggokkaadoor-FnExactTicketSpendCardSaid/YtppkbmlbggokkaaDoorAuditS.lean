/- The reference's TicketAudit. -/
import Derived.Test.YtppkbmlbggokkaaDoorSpent
import Derived.WalkKit
import Derived.Lib.Hide
import Derived.Deep.QuietTactic
import Derived.BigQuiet
namespace Go.Proofs.YtppkbmlbggokkaaDoor
open Go.RowKit
/-- the numbers of a that are in b -/
noncomputable def inBoth (a b : List Int) : List Int := a.filter fun x => pb (x ∈ b)
open Classical in
noncomputable def auditL (a b : List Int) : List Int := if SpentP a ∧ SpentP b then inBoth a b else []
theorem inBoth_take (a b : List Int) (k : Nat) (hk : k < a.length) : inBoth (a.take (k + 1)) b = inBoth (a.take k) b ++ if a.getD k 0 ∈ b then [a.getD k 0] else [] := by
  rw [List.take_succ_eq_append_getElem hk]
  unfold inBoth
  rw [List.filter_append]
  congr 1
  have e : a.getD k 0 = a[k] := by simp [List.getD_eq_getElem?_getD, List.getElem?_eq_getElem hk]
  rw [e]
  by_cases h : a[k] ∈ b
  · simp [h]
  · simp [h]
theorem inBoth_len (a b : List Int) (k : Nat) : (inBoth (a.take k) b).length ≤ k := by
  have h1 := List.length_filter_le (fun x => pb (x ∈ b)) (a.take k)
  have h2 : (a.take k).length ≤ k := by rw [List.length_take]; omega
  exact Nat.le_trans h1 h2
end Go.Proofs.YtppkbmlbggokkaaDoor
