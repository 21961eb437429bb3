/- Tickets: made and checked. -/
import Derived.Test.YtppkbmlbggokkaaDoorOpen
import Derived.Test.YtppkbmlbggokkaaDoorTickP
import Derived.WalkKit
import Derived.Lib.Hide
import Derived.Deep.QuietTactic
import Derived.BigQuiet
namespace Go.Proofs.YtppkbmlbggokkaaDoor
open Go.RowKit
theorem ticketCheck_any (p s g : Int) (w : World) :
    Calls Tryd.prog 21 #[.int .i64 p, .agg #[.int .i64 s, .int .i64 g]] w fun e w' => e = .returned (.bool (tkB p s g)) ∧ w.grownBy w' none := by
  have fin : tkB p s g = (elB p && numB s && elB g && (prodZ g 5 == prodZ p (s + 1))) := rfl
  cases h1 : elB p <;> cases h2 : numB s <;> cases h3 : elB g
  all_goals
    rw [h1, h2, h3] at fin
    simp only [Bool.false_and, Bool.and_false, Bool.true_and] at fin
    have H := Lib.hid fin
    have K1 := Lib.hid h1
    have K2 := Lib.hid h2
    have K3 := Lib.hid h3
    clear fin h1 h2 h3
  all_goals try
    have b1 := elB_iff.1 K1.out
    have b2 := numB_iff.1 K2.out
    have b3 := elB_iff.1 K3.out
  all_goals
    go_enter Tryd.func21, Tryd.ntmps21
    go_wp2
    go_quiet (first | with_reducible exact quiet1 (isElement_any p _) (congrArg Value.bool K1.out) | with_reducible exact quiet1 (isElement_any g _) (congrArg Value.bool K3.out) | with_reducible exact quiet1 (isNumber_any s _) (congrArg Value.bool K2.out) | with_reducible exact quiet1 (product_any g 5 _) rfl | with_reducible exact quiet1 (product_any p (s + 1) _) rfl)
    go_wp2
    go_ret
    exact ⟨by rw [H.out]; rfl, grown_trans (grown_alloc _ _ _) (grown_drewN _ _ _)⟩
theorem ticketCheckS_any (p s g : Int) (w : World) :
    Calls Tryd.prog 29 #[.int .i64 p, .agg #[.int .i64 s, .int .i64 g]] w fun e w' => e = .returned (.bool (tkB p s g)) ∧ w.grownBy w' none := by
  have fin : tkB p s g = (elB p && numB s && elB g && (prodZ g 5 == prodZ p (s + 1))) := rfl
  cases h1 : elB p <;> cases h2 : numB s <;> cases h3 : elB g
  all_goals
    rw [h1, h2, h3] at fin
    simp only [Bool.false_and, Bool.and_false, Bool.true_and] at fin
    have H := Lib.hid fin
    have K1 := Lib.hid h1
    have K2 := Lib.hid h2
    have K3 := Lib.hid h3
    clear fin h1 h2 h3
  all_goals try
    have b1 := elB_iff.1 K1.out
    have b2 := numB_iff.1 K2.out
    have b3 := elB_iff.1 K3.out
  all_goals
    go_enter Tryd.func29, Tryd.ntmps29
    go_wp2
    go_quiet (first | with_reducible exact quiet1 (l1Is_any p _) (congrArg Value.bool K1.out) | with_reducible exact quiet1 (l1Is_any g _) (congrArg Value.bool K3.out) | with_reducible exact quiet1 (l31Serial_any s _) (congrArg Value.bool K2.out) | with_reducible exact quiet1 (l1Times_any g 5 _ b3 (by omega)) rfl | with_reducible exact quiet1 (l1Times_any p (s + 1) _ b1 (by omega)) rfl)
    go_wp2
    go_ret
    exact ⟨by rw [H.out]; rfl, grown_trans (grown_alloc _ _ _) (grown_drewN _ _ _)⟩
theorem ticketMakeS_any (s n : Int) (w : World) :
    Calls Tryd.prog 40 #[.int .i64 s, .int .i64 n] w fun e w' => e = .returned (.tuple #[.agg #[.int .i64 (tmN s n), .int .i64 (tmG s n)], .bool (tmB s n)]) ∧ w.grownBy w' none := by
  have fin : tmB s n = (elB s && numB n) := rfl
  cases h1 : elB s <;> cases h2 : numB n
  all_goals
    rw [h1, h2] at fin
    simp only [Bool.false_and, Bool.and_false, Bool.true_and] at fin
  · have H := Lib.hid (tm_no fin)
    have K1 := Lib.hid h1
    have K2 := Lib.hid h2
    have Hf := Lib.hid fin
    clear h1 h2 fin
    go_enter Tryd.func40, Tryd.ntmps40
    go_wp2_with (first | (go_at_call 49; refine (l1Is_any _ _).mono ?_; rintro e w' ⟨rfl, rfl⟩; rw [K1.out]) | (go_at_call 48; refine (l31Serial_any _ _).mono ?_; rintro e w' ⟨rfl, rfl⟩; rw [K2.out]) | (go_at_call 50; refine (product_any _ _ _).mono ?_; rintro e w' ⟨rfl, rfl⟩))
    refine bodyPost_ret (v := .tuple #[.agg #[.int .i64 (tmN s n), .int .i64 (tmG s n)], .bool (tmB s n)]) (by rw [H.out.1, H.out.2, Hf.out]; simp [results, Tryd.results40, go_sem]) rfl ⟨rfl, grown_alloc _ _ _⟩
  · have H := Lib.hid (tm_no fin)
    have K1 := Lib.hid h1
    have K2 := Lib.hid h2
    have Hf := Lib.hid fin
    clear h1 h2 fin
    go_enter Tryd.func40, Tryd.ntmps40
    go_wp2_with (first | (go_at_call 49; refine (l1Is_any _ _).mono ?_; rintro e w' ⟨rfl, rfl⟩; rw [K1.out]) | (go_at_call 48; refine (l31Serial_any _ _).mono ?_; rintro e w' ⟨rfl, rfl⟩; rw [K2.out]) | (go_at_call 50; refine (product_any _ _ _).mono ?_; rintro e w' ⟨rfl, rfl⟩))
    refine bodyPost_ret (v := .tuple #[.agg #[.int .i64 (tmN s n), .int .i64 (tmG s n)], .bool (tmB s n)]) (by rw [H.out.1, H.out.2, Hf.out]; simp [results, Tryd.results40, go_sem]) rfl ⟨rfl, grown_alloc _ _ _⟩
  · have H := Lib.hid (tm_no fin)
    have K1 := Lib.hid h1
    have K2 := Lib.hid h2
    have Hf := Lib.hid fin
    clear h1 h2 fin
    go_enter Tryd.func40, Tryd.ntmps40
    go_wp2_with (first | (go_at_call 49; refine (l1Is_any _ _).mono ?_; rintro e w' ⟨rfl, rfl⟩; rw [K1.out]) | (go_at_call 48; refine (l31Serial_any _ _).mono ?_; rintro e w' ⟨rfl, rfl⟩; rw [K2.out]) | (go_at_call 50; refine (product_any _ _ _).mono ?_; rintro e w' ⟨rfl, rfl⟩))
    refine bodyPost_ret (v := .tuple #[.agg #[.int .i64 (tmN s n), .int .i64 (tmG s n)], .bool (tmB s n)]) (by rw [H.out.1, H.out.2, Hf.out]; simp [results, Tryd.results40, go_sem]) rfl ⟨rfl, grown_alloc _ _ _⟩
  · have H := Lib.hid (tm_yes fin)
    have b1 := elB_iff.1 h1
    have b2 := numB_iff.1 h2
    have K1 := Lib.hid h1
    have K2 := Lib.hid h2
    have Hf := Lib.hid fin
    clear h1 h2 fin
    go_enter Tryd.func40, Tryd.ntmps40
    go_wp2_with (first | (go_at_call 49; refine (l1Is_any _ _).mono ?_; rintro e w' ⟨rfl, rfl⟩; rw [K1.out]) | (go_at_call 48; refine (l31Serial_any _ _).mono ?_; rintro e w' ⟨rfl, rfl⟩; rw [K2.out]) | (go_at_call 50; refine (l1Times_any s (n + 1) _ b1 (by omega)).mono ?_; rintro e w' ⟨rfl, rfl⟩))
    refine bodyPost_ret (v := .tuple #[.agg #[.int .i64 (tmN s n), .int .i64 (tmG s n)], .bool (tmB s n)]) (by rw [H.out.1, H.out.2, Hf.out]; simp [results, Tryd.results40, go_sem]) rfl ⟨rfl, grown_alloc _ _ _⟩
theorem toTicket_any (s g : Int) (w : World) :
    Calls Tryd.prog 17 #[.agg #[.int .i64 s, .int .i64 g]] w fun e w' => e = .returned (.agg #[.int .i64 s, .int .i64 g]) ∧ w.grownBy w' none := by
  go_enter Tryd.func17, Tryd.ntmps17
  go_wp2
  refine bodyPost_ret (v := .agg #[.int .i64 s, .int .i64 g]) (by simp [results, Tryd.results17, go_sem]) rfl ⟨rfl, (by (repeat (with_reducible (first | refine gDrew ?_ | refine gDrewN ?_ _ | refine gAlloc ?_ _))); exact grown_refl _ _)⟩
end Go.Proofs.YtppkbmlbggokkaaDoor
