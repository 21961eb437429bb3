/- AssignCount. -/
import Derived.Test.YtilgcfgbfhmdcaaAsg
import Derived.WalkKit
import Derived.Lib.Hide
import Derived.Deep.QuietTactic
import Derived.BigQuiet
namespace Go.Proofs.Ytilgcfgbfhmdcaa
open Go.RowKit
theorem assign_start (ao : Option Addr) (n cap : Nat) (rows : List (List Bool)) (hn : n ≤ 5) (w : World) (h : GridAt w ao n cap rows) (hl : ∀ i, i < n → (rows.getD i []).length = n) :
    Calls Try.prog 25 #[.slice ao n cap, .int .i64 0, .int .u64 0] w fun e w' => e = .returned (.int .i64 (cnt rows n n (fun x => (0 : Nat).testBit x) : Nat)) ∧ w = w' := by
  have := assignments_any ao n cap rows hn n 0 w h hl (Nat.le_refl _) (by omega)
  rw [Int.sub_self] at this
  exact this
theorem l33_start (ao : Option Addr) (n cap : Nat) (rows : List (List Bool)) (hn : n ≤ 5) (uo : Option Addr) (um uc : Nat) (w : World) (h : GridAt w ao n cap rows) (hl : ∀ i, i < n → (rows.getD i []).length = n) (hu : IntsAt w uo um uc []) :
    Calls Try.prog 26 #[.slice ao n cap, .int .i64 0, .slice uo um uc] w fun e w' => e = .returned (.int .i64 (cnt rows n n (fun x => pb ((x : Int) ∈ ([] : List Int))) : Nat)) ∧ w.grownBy w' none := by
  have := l33Count_any ao n cap rows hn n [] uo um uc w h hl (Nat.le_refl _) hu (by have := hu.len; simp at this; omega)
  rw [Int.sub_self] at this
  exact this
theorem assignCount_any (w : World) (ao : Option Addr) (n cap : Nat) (rows : List (List Bool)) (h : GridAt w ao n cap rows) :
    Calls Try.prog 16 #[.slice ao n cap] w fun e w' => e = .returned (.int .i64 (acount rows)) ∧ w = w' := by
  have H := Lib.hid h.len
  go_enter Try.func16, Try.ntmps16
  go_wp2_with fail
  refine (assignValid_any _ _ _ _ _ h).mono ?_
  rintro e w1 ⟨rfl, rfl⟩
  cases hp : pb (GridP rows)
  · have A := Lib.hid (acount_no (pb_not.1 hp))
    clear hp
    go_wp2_with fail
    go_ret
    exact ⟨by rw [A.out]; rfl, rfl⟩
  · have hg := pb_iff.1 hp
    have A := Lib.hid (acount_yes hg)
    have Hg := Lib.hid hg
    clear hp hg
    go_wp2_with fail
    refine (assign_start _ _ _ rows (by have := Hg.out.1; have := H.out; omega) _ h (fun i hi => by have := Hg.out.2 i (by rw [H.out]; exact hi); rw [this, H.out])).mono ?_
    rintro e w1 ⟨rfl, rfl⟩
    have fin : cnt rows n n (fun x => (0 : Nat).testBit x) = cnt rows rows.length rows.length (fun _ => false) := by
      rw [H.out]
      exact cnt_congr _ _ _ _ _ fun x _ => by simp
    rw [fin, ← A.out]
    clear fin
    go_wp2_with fail
    go_ret
    exact ⟨rfl, rfl⟩
theorem assignCountS_any (w : World) (ao : Option Addr) (n cap : Nat) (rows : List (List Bool)) (h : GridAt w ao n cap rows) :
    Calls Try.prog 17 #[.slice ao n cap] w fun e w' => e = .returned (.int .i64 (acount rows)) ∧ w.grownBy w' none := by
  have H := Lib.hid h.len
  go_enter Try.func17, Try.ntmps17
  go_wp2_with fail
  refine (assignValidS_any _ _ _ _ _ h).mono ?_
  rintro e w1 ⟨rfl, rfl⟩
  cases hp : pb (GridP rows)
  · have A := Lib.hid (acount_no (pb_not.1 hp))
    clear hp
    go_wp2_with fail
    go_ret
    exact ⟨by rw [A.out]; rfl, grown_refl _ _⟩
  · have hg := pb_iff.1 hp
    have A := Lib.hid (acount_yes hg)
    have Hg := Lib.hid hg
    clear hp hg
    have h2 := h.grown (grown_alloc w (.cells #[] 3) none)
    obtain ⟨_, _, e3, i3, _⟩ := (own_nil w.heap.size w (Nat.le_refl _)).shape
    simp at e3
    obtain ⟨rfl, rfl⟩ := e3
    go_wp2_with fail
    refine (l33_start _ _ _ rows (by have := Hg.out.1; have := H.out; omega) _ _ _ _ h2 (fun i hi => by have := Hg.out.2 i (by rw [H.out]; exact hi); rw [this, H.out]) i3).mono ?_
    rintro e w1 ⟨rfl, g1⟩
    have fin : cnt rows n n (fun x => pb ((x : Int) ∈ ([] : List Int))) = cnt rows rows.length rows.length (fun _ => false) := by
      rw [H.out]
      exact cnt_congr _ _ _ _ _ fun x _ => pb_false (by simp)
    rw [fin, ← A.out]
    clear fin i3
    go_wp2_with fail
    go_ret
    exact ⟨rfl, grown_trans (grown_alloc _ _ _) g1⟩
end Go.Proofs.Ytilgcfgbfhmdcaa
