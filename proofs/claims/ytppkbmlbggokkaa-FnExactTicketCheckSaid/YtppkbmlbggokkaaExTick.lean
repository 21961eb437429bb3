/- The walks of the exact laws on tickets made and checked. -/
import Derived.Test.YtppkbmlbggokkaaTick
import Derived.WalkKit
import Derived.Lib.Hide
import Derived.Deep.QuietTactic
import Derived.BigQuiet
namespace Go.Proofs.Ytppkbmlbggokkaa
open Go.RowKit
theorem fnExactTicketCheck_walk (p s g : Int) (w : World) :
    Calls Try.prog 3 #[.int .i64 p, .agg #[.int .i64 s, .int .i64 g]] w fun e w' => e = .returned (.bool true) ∧ w.grownBy w' none := by
  go_enter Try.func3, Try.ntmps3
  go_wp2_with fail
  refine (toTicket_any _ _ _).mono ?_
  rintro e w1 ⟨rfl, g1⟩
  go_wp2_with fail
  refine (ticketCheckS_any _ _ _ _).mono ?_
  rintro e w2 ⟨rfl, g2⟩
  have c0 := cellN (grown_trans g1 g2) 0 rfl
  have c1 := cellN (grown_trans g1 g2) 1 rfl
  go_wp2_with fail
  refine (toTicket_any _ _ _).mono ?_
  rintro e w3 ⟨rfl, g3⟩
  go_wp2_with fail
  refine (ticketCheck_any _ _ _ _).mono ?_
  rintro e w4 ⟨rfl, g4⟩
  go_wp2_with fail
  go_ret
  exact ⟨rfl, grown_trans (grown_alloc _ _ _) (grown_trans g1 (grown_trans g2 (grown_trans g3 g4)))⟩
theorem fnExactTicketMake_walk (s n : Int) (w : World) :
    Calls Try.prog 4 #[.int .i64 s, .int .i64 n] w fun e w' => e = .returned (.bool true) ∧ w.grownBy w' none := by
  go_enter Try.func4, Try.ntmps4
  go_wp2_with fail
  refine (ticketMakeS_any _ _ _).mono ?_
  rintro e w1 ⟨rfl, g1⟩
  go_wp2_with fail
  refine (ticketMake_any _ _ _).mono ?_
  rintro e w2 ⟨rfl, g2⟩
  have c0 := cellN g2 0 rfl
  have c1 := cellN g2 1 rfl
  have z2 := sizeN g2
  go_wp2_with fail
  refine (eqTicket_any _ _ _).mono ?_
  rintro e w3 ⟨rfl, g3⟩
  go_wp2_with fail
  go_ret
  exact ⟨rfl, grown_trans g1 (grown_trans (grown_alloc _ _ _) (grown_trans g2 (grown_trans (grown_alloc _ _ _) g3)))⟩
end Go.Proofs.Ytppkbmlbggokkaa
