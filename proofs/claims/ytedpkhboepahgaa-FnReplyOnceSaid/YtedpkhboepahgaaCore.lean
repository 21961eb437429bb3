/- Contracts of the small functions on numbers. -/
import Derived.Test.YtedpkhboepahgaaProg
import Derived.Test.YtedpkhboepahgaaPlain
import Derived.WalkKit
import Derived.Lib.Hide
import Derived.Deep.QuietTactic
import Derived.BigQuiet
namespace Go.Proofs.Ytedpkhboepahgaa
open Go.RowKit
theorem within_any (n l h : Int) (w : World) :
    Calls Try.prog 55 #[.int .i64 n, .int .i64 l, .int .i64 h] w fun e w' => e = .returned (.bool (inB n l h)) ∧ w = w' := by
  by_cases a : l ≤ n
  · by_cases b : n ≤ h
    · have H := Lib.hid (inB_true a b)
      go_enter Try.func55, Try.ntmps55
      go_wp2
      go_ret
      exact ⟨by rw [H.out]; rfl, rfl⟩
    · have b' : h < n := by omega
      have H := Lib.hid (inB_hi (l := l) b')
      go_enter Try.func55, Try.ntmps55
      go_wp2
      go_ret
      exact ⟨by rw [H.out]; rfl, rfl⟩
  · have a' : n < l := by omega
    have H := Lib.hid (inB_lo (h := h) a')
    go_enter Try.func55, Try.ntmps55
    go_wp2
    go_ret
    exact ⟨by rw [H.out]; rfl, rfl⟩
theorem l6In_any (n l h : Int) (w : World) :
    Calls Try.prog 74 #[.int .i64 n, .int .i64 l, .int .i64 h] w fun e w' => e = .returned (.bool (inB n l h)) ∧ w = w' := by
  by_cases a : l ≤ n
  · by_cases b : n ≤ h
    · have H := Lib.hid (inB_true a b)
      go_enter Try.func74, Try.ntmps74
      go_wp2
      go_ret
      exact ⟨by rw [H.out]; rfl, rfl⟩
    · have b' : h < n := by omega
      have H := Lib.hid (inB_hi (l := l) b')
      go_enter Try.func74, Try.ntmps74
      go_wp2
      go_ret
      exact ⟨by rw [H.out]; rfl, rfl⟩
  · have a' : n < l := by omega
    have H := Lib.hid (inB_lo (h := h) a')
    go_enter Try.func74, Try.ntmps74
    go_wp2
    go_ret
    exact ⟨by rw [H.out]; rfl, rfl⟩
theorem isElement_any (n : Int) (w : World) :
    Calls Try.prog 51 #[.int .i64 n] w fun e w' => e = .returned (.bool (elB n)) ∧ w = w' := by
  go_enter Try.func51, Try.ntmps51
  go_wp2_with (go_at_call 55; refine (within_any _ _ _ _).mono ?_; rintro e w' ⟨rfl, rfl⟩)
  go_ret
  exact ⟨rfl, rfl⟩
theorem l1Is_any (n : Int) (w : World) :
    Calls Try.prog 82 #[.int .i64 n] w fun e w' => e = .returned (.bool (elB n)) ∧ w = w' := by
  go_enter Try.func82, Try.ntmps82
  go_wp2_with (go_at_call 74; refine (l6In_any _ _ _ _).mono ?_; rintro e w' ⟨rfl, rfl⟩)
  go_ret
  exact ⟨rfl, rfl⟩
theorem isNumber_any (n : Int) (w : World) :
    Calls Try.prog 78 #[.int .i64 n] w fun e w' => e = .returned (.bool (numB n)) ∧ w = w' := by
  go_enter Try.func78, Try.ntmps78
  go_wp2_with (go_at_call 55; refine (within_any _ _ _ _).mono ?_; rintro e w' ⟨rfl, rfl⟩)
  go_ret
  exact ⟨rfl, rfl⟩
/-- a contract that leaves the world, met inside a quiet region -/
theorem quiet1 {P : Program} {f : FuncId} {args : Array Value} {w : World} {n : Nat} {v v' : Value}
    (h : Calls P f args (w.drewN n) fun e w' => e = .returned v ∧ w.drewN n = w') (hv : v = v') : Calls P f args (w.drewN n) fun e w'' => e = .returned v' ∧ ∃ m, w'' = w.drewN m :=
  h.mono fun _ _ ⟨he, hm⟩ => ⟨hv ▸ he, n, hm.symm⟩
theorem product_any (a b : Int) (w : World) :
    Calls Try.prog 79 #[.int .i64 a, .int .i64 b] w fun e w' => e = .returned (.int .i64 (prodZ a b)) ∧ w = w' := by
  by_cases h1 : elB a = true
  · by_cases h2 : elB b = true
    · have H := Lib.hid (prodZ_el h1 h2)
      have g1 := elB_iff.1 h1
      have g2 := elB_iff.1 h2
      have hm := mul_lo g1 g2
      have hm2 := mul_hi g1 g2
      go_enter Try.func79, Try.ntmps79
      go_wp2_with (go_at_call 51; refine (isElement_any _ _).mono ?_; rintro e w' ⟨rfl, rfl⟩)
      go_ret
      exact ⟨by rw [H.out]; rfl, rfl⟩
    · have h2' : elB b = false := by simpa using h2
      have H := Lib.hid (prodZ_no (a := a) (.inr h2'))
      clear h2
      go_enter Try.func79, Try.ntmps79
      go_wp2_with (go_at_call 51; refine (isElement_any _ _).mono ?_; rintro e w' ⟨rfl, rfl⟩)
      go_ret
      exact ⟨by rw [H.out]; rfl, rfl⟩
  · have h1' : elB a = false := by simpa using h1
    have H := Lib.hid (prodZ_no (b := b) (.inl h1'))
    clear h1
    go_enter Try.func79, Try.ntmps79
    go_wp2_with (go_at_call 51; refine (isElement_any _ _).mono ?_; rintro e w' ⟨rfl, rfl⟩)
    go_ret
    exact ⟨by rw [H.out]; rfl, rfl⟩
theorem l1Times_any (a b : Int) (w : World) (h1 : 1 ≤ a ∧ a ≤ 996) (h2 : 1 ≤ b ∧ b ≤ 996) :
    Calls Try.prog 86 #[.int .i64 a, .int .i64 b] w fun e w' => e = .returned (.int .i64 (prodZ a b)) ∧ w = w' := by
  have H := Lib.hid (prodZ_el (elB_iff.2 h1) (elB_iff.2 h2))
  have hm := mul_lo h1 h2
  have hm2 := mul_hi h1 h2
  go_enter Try.func86, Try.ntmps86
  go_wp2
  go_ret
  exact ⟨by rw [H.out]; rfl, rfl⟩
end Go.Proofs.Ytedpkhboepahgaa
