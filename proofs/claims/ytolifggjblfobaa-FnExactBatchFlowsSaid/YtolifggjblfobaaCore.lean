/- Contracts of the small functions on numbers. -/
import Derived.Test.YtolifggjblfobaaProg
import Derived.Test.YtolifggjblfobaaPlain
import Derived.WalkKit
import Derived.Lib.Hide
import Derived.Deep.QuietTactic
import Derived.BigQuiet
namespace Go.Proofs.Ytolifggjblfobaa
open Go.RowKit
theorem within_any (n l h : Int) (w : World) :
    Calls Try.prog 53 #[.int .i64 n, .int .i64 l, .int .i64 h] w fun e w' => e = .returned (.bool (inB n l h)) ∧ w = w' := by
  by_cases a : l ≤ n
  · by_cases b : n ≤ h
    · have H := Lib.hid (inB_true a b)
      go_enter Try.func53, Try.ntmps53
      go_wp2
      go_ret
      exact ⟨by rw [H.out]; rfl, rfl⟩
    · have b' : h < n := by omega
      have H := Lib.hid (inB_hi (l := l) b')
      go_enter Try.func53, Try.ntmps53
      go_wp2
      go_ret
      exact ⟨by rw [H.out]; rfl, rfl⟩
  · have a' : n < l := by omega
    have H := Lib.hid (inB_lo (h := h) a')
    go_enter Try.func53, Try.ntmps53
    go_wp2
    go_ret
    exact ⟨by rw [H.out]; rfl, rfl⟩
theorem l6In_any (n l h : Int) (w : World) :
    Calls Try.prog 52 #[.int .i64 n, .int .i64 l, .int .i64 h] w fun e w' => e = .returned (.bool (inB n l h)) ∧ w = w' := by
  by_cases a : l ≤ n
  · by_cases b : n ≤ h
    · have H := Lib.hid (inB_true a b)
      go_enter Try.func52, Try.ntmps52
      go_wp2
      go_ret
      exact ⟨by rw [H.out]; rfl, rfl⟩
    · have b' : h < n := by omega
      have H := Lib.hid (inB_hi (l := l) b')
      go_enter Try.func52, Try.ntmps52
      go_wp2
      go_ret
      exact ⟨by rw [H.out]; rfl, rfl⟩
  · have a' : n < l := by omega
    have H := Lib.hid (inB_lo (h := h) a')
    go_enter Try.func52, Try.ntmps52
    go_wp2
    go_ret
    exact ⟨by rw [H.out]; rfl, rfl⟩
theorem isNumber_any (n : Int) (w : World) :
    Calls Try.prog 48 #[.int .i64 n] w fun e w' => e = .returned (.bool (numB n)) ∧ w = w' := by
  go_enter Try.func48, Try.ntmps48
  go_wp2_with (go_at_call 53; refine (within_any _ _ _ _).mono ?_; rintro e w' ⟨rfl, rfl⟩)
  go_ret
  exact ⟨rfl, rfl⟩
/-- a contract that leaves the world, met inside a quiet region -/
theorem quiet1 {P : Program} {f : FuncId} {args : Array Value} {w : World} {n : Nat} {v v' : Value}
    (h : Calls P f args (w.drewN n) fun e w' => e = .returned v ∧ w.drewN n = w') (hv : v = v') : Calls P f args (w.drewN n) fun e w'' => e = .returned v' ∧ ∃ m, w'' = w.drewN m :=
  h.mono fun _ _ ⟨he, hm⟩ => ⟨hv ▸ he, n, hm.symm⟩
end Go.Proofs.Ytolifggjblfobaa
