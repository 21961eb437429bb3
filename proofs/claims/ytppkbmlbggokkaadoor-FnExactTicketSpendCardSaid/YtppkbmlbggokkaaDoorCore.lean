/- Contracts of the small functions on numbers. -/
import Derived.Test.YtppkbmlbggokkaaDoorProg
import Derived.Test.YtppkbmlbggokkaaDoorPlain
import Derived.WalkKit
import Derived.Lib.Hide
import Derived.Deep.QuietTactic
import Derived.BigQuiet
namespace Go.Proofs.YtppkbmlbggokkaaDoor
open Go.RowKit
theorem within_any (n l h : Int) (w : World) :
    Calls Tryd.prog 53 #[.int .i64 n, .int .i64 l, .int .i64 h] w fun e w' => e = .returned (.bool (inB n l h)) ∧ w = w' := by
  by_cases a : l ≤ n
  · by_cases b : n ≤ h
    · have H := Lib.hid (inB_true a b)
      go_enter Tryd.func53, Tryd.ntmps53
      go_wp2
      go_ret
      exact ⟨by rw [H.out]; rfl, rfl⟩
    · have b' : h < n := by omega
      have H := Lib.hid (inB_hi (l := l) b')
      go_enter Tryd.func53, Tryd.ntmps53
      go_wp2
      go_ret
      exact ⟨by rw [H.out]; rfl, rfl⟩
  · have a' : n < l := by omega
    have H := Lib.hid (inB_lo (h := h) a')
    go_enter Tryd.func53, Tryd.ntmps53
    go_wp2
    go_ret
    exact ⟨by rw [H.out]; rfl, rfl⟩
theorem l6In_any (n l h : Int) (w : World) :
    Calls Tryd.prog 58 #[.int .i64 n, .int .i64 l, .int .i64 h] w fun e w' => e = .returned (.bool (inB n l h)) ∧ w = w' := by
  by_cases a : l ≤ n
  · by_cases b : n ≤ h
    · have H := Lib.hid (inB_true a b)
      go_enter Tryd.func58, Tryd.ntmps58
      go_wp2
      go_ret
      exact ⟨by rw [H.out]; rfl, rfl⟩
    · have b' : h < n := by omega
      have H := Lib.hid (inB_hi (l := l) b')
      go_enter Tryd.func58, Tryd.ntmps58
      go_wp2
      go_ret
      exact ⟨by rw [H.out]; rfl, rfl⟩
  · have a' : n < l := by omega
    have H := Lib.hid (inB_lo (h := h) a')
    go_enter Tryd.func58, Tryd.ntmps58
    go_wp2
    go_ret
    exact ⟨by rw [H.out]; rfl, rfl⟩
theorem isElement_any (n : Int) (w : World) :
    Calls Tryd.prog 35 #[.int .i64 n] w fun e w' => e = .returned (.bool (elB n)) ∧ w = w' := by
  go_enter Tryd.func35, Tryd.ntmps35
  go_wp2_with (go_at_call 53; refine (within_any _ _ _ _).mono ?_; rintro e w' ⟨rfl, rfl⟩)
  go_ret
  exact ⟨rfl, rfl⟩
theorem l1Is_any (n : Int) (w : World) :
    Calls Tryd.prog 49 #[.int .i64 n] w fun e w' => e = .returned (.bool (elB n)) ∧ w = w' := by
  go_enter Tryd.func49, Tryd.ntmps49
  go_wp2_with (go_at_call 58; refine (l6In_any _ _ _ _).mono ?_; rintro e w' ⟨rfl, rfl⟩)
  go_ret
  exact ⟨rfl, rfl⟩
theorem isNumber_any (n : Int) (w : World) :
    Calls Tryd.prog 36 #[.int .i64 n] w fun e w' => e = .returned (.bool (numB n)) ∧ w = w' := by
  go_enter Tryd.func36, Tryd.ntmps36
  go_wp2_with (go_at_call 53; refine (within_any _ _ _ _).mono ?_; rintro e w' ⟨rfl, rfl⟩)
  go_ret
  exact ⟨rfl, rfl⟩
theorem l31Serial_any (n : Int) (w : World) :
    Calls Tryd.prog 48 #[.int .i64 n] w fun e w' => e = .returned (.bool (numB n)) ∧ w = w' := by
  go_enter Tryd.func48, Tryd.ntmps48
  go_wp2_with (go_at_call 58; refine (l6In_any _ _ _ _).mono ?_; rintro e w' ⟨rfl, rfl⟩)
  go_ret
  exact ⟨rfl, rfl⟩
/-- a contract that leaves the world, met inside a quiet region -/
theorem quiet1 {P : Program} {f : FuncId} {args : Array Value} {w : World} {n : Nat} {v v' : Value}
    (h : Calls P f args (w.drewN n) fun e w' => e = .returned v ∧ w.drewN n = w') (hv : v = v') : Calls P f args (w.drewN n) fun e w'' => e = .returned v' ∧ ∃ m, w'' = w.drewN m :=
  h.mono fun _ _ ⟨he, hm⟩ => ⟨hv ▸ he, n, hm.symm⟩
theorem product_any (a b : Int) (w : World) :
    Calls Tryd.prog 37 #[.int .i64 a, .int .i64 b] w fun e w' => e = .returned (.int .i64 (prodZ a b)) ∧ w = w' := by
  by_cases h1 : elB a = true
  · by_cases h2 : elB b = true
    · have H := Lib.hid (prodZ_el h1 h2)
      have g1 := elB_iff.1 h1
      have g2 := elB_iff.1 h2
      have hm := mul_lo g1 g2
      have hm2 := mul_hi g1 g2
      go_enter Tryd.func37, Tryd.ntmps37
      go_wp2_with (go_at_call 35; refine (isElement_any _ _).mono ?_; rintro e w' ⟨rfl, rfl⟩)
      go_ret
      exact ⟨by rw [H.out]; rfl, rfl⟩
    · have h2' : elB b = false := by simpa using h2
      have H := Lib.hid (prodZ_no (a := a) (.inr h2'))
      clear h2
      go_enter Tryd.func37, Tryd.ntmps37
      go_wp2_with (go_at_call 35; refine (isElement_any _ _).mono ?_; rintro e w' ⟨rfl, rfl⟩)
      go_ret
      exact ⟨by rw [H.out]; rfl, rfl⟩
  · have h1' : elB a = false := by simpa using h1
    have H := Lib.hid (prodZ_no (b := b) (.inl h1'))
    clear h1
    go_enter Tryd.func37, Tryd.ntmps37
    go_wp2_with (go_at_call 35; refine (isElement_any _ _).mono ?_; rintro e w' ⟨rfl, rfl⟩)
    go_ret
    exact ⟨by rw [H.out]; rfl, rfl⟩
theorem l1Times_any (a b : Int) (w : World) (h1 : 1 ≤ a ∧ a ≤ 996) (h2 : 1 ≤ b ∧ b ≤ 996) :
    Calls Tryd.prog 50 #[.int .i64 a, .int .i64 b] w fun e w' => e = .returned (.int .i64 (prodZ a b)) ∧ w = w' := by
  have H := Lib.hid (prodZ_el (elB_iff.2 h1) (elB_iff.2 h2))
  have hm := mul_lo h1 h2
  have hm2 := mul_hi h1 h2
  go_enter Tryd.func50, Tryd.ntmps50
  go_wp2
  go_ret
  exact ⟨by rw [H.out]; rfl, rfl⟩
end Go.Proofs.YtppkbmlbggokkaaDoor
