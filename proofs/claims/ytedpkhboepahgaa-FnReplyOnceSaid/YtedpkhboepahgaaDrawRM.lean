/- Drawn: what ReplyMake takes. -/
import Derived.Test.YtedpkhboepahgaaPath
import Derived.WalkKit
import Derived.Lib.Hide
import Derived.Deep.QuietTactic
import Derived.BigQuiet
namespace Go.Proofs.Ytedpkhboepahgaa
open Go.RowKit
def DrawRMPost (w : World) (e : Ending) (w' : World) : Prop :=
  ∃ s r : Int, ∃ ps ns : List Int, ∃ ao n cap bo n' cap', e = .returned (.tuple #[.int .i64 s, .slice ao n cap, .slice bo n' cap', .int .i64 r]) ∧ IntsAt w' ao n cap ps ∧ IntsAt w' bo n' cap' ns ∧ w.grownBy w' none
theorem IntsAt.rowB {w w' : World} {ao : Option Addr} {n cap rb : Nat} {xs : List Int} (h : IntsAt w ao n cap xs) (g : w.grownBy w' (some rb)) (ha : ∀ a, ao = some a → rb < a.block) : IntsAt w' ao n cap xs :=
  RowAt.row h g fun a e e2 => by have := ha a e; simp at e2; omega
set_option maxHeartbeats 2000000 in
theorem drawReplyMake_any (w : World) (ao : Option Addr) (n cap : Nat) (hco : CodeAt w ao n cap) :
    Calls Try.prog 11 #[.slice ao n cap] w (DrawRMPost w) := by
  go_enter Try.func11, Try.ntmps11
  go_wp2_with fail
  refine (l6Open_any _ _ _ _ hco).mono ?_
  rintro e w1 ⟨rb, rfl, z1, g1, r1⟩
  go_wp2_with fail
  refine (l91Is_any rb _ _ r1 (by omega)).mono ?_
  rintro e w2 ⟨s, rfl, hs, g2, r2⟩
  go_wp2_with fail
  refine (l91Path_any rb _ _ r2 (by omega)).mono ?_
  rintro e w3 ⟨ps, ns, ao3, n3, cap3, bo3, n3', cap3', rfl, hp, hn, ha, hb, g3, r3⟩
  have G1 := Lib.hid g1
  have Z1 := Lib.hid z1
  have G3 := Lib.hid (grown_trans g2 g3)
  have P3 := Lib.hid hp
  have N3 := Lib.hid hn
  have HA := Lib.hid ha
  have HB := Lib.hid hb
  have R3 := Lib.hid r3
  clear g1 z1 g2 g3 r1 r2 r3 hp hn ha hb hs
  go_wp2_with fail
  refine (pick_any _ 8 _ _ R3.out (by omega) (by omega) (by omega)).mono ?_
  rintro e w4 ⟨v4, rfl, k4, g4, r4⟩
  go_wp2_with fail
  refine (pick_any _ 20 _ _ r4 (by omega) (by omega) (by omega)).mono ?_
  rintro e w5 ⟨v5, rfl, k5, g5, r5⟩
  go_wp2_with fail
  refine (pick_any _ 3 _ _ r5 (by omega) (by omega) (by omega)).mono ?_
  rintro e w6 ⟨v6, rfl, k6, g6, r6⟩
  have g46 := grown_trans g4 (grown_trans g5 g6)
  have P6 := Lib.hid (P3.out.rowB g46 HA.out)
  have N6 := Lib.hid (N3.out.rowB g46 HB.out)
  have G6 := Lib.hid (grown_new G1.out (grown_trans G3.out g46) Z1.out)
  clear g4 g5 g6 g46 r4 r5 r6
  by_cases h19 : v5 = 19
  · subst h19
    have h6 : v6 = 0 ∨ v6 = 1 ∨ v6 = 2 := by omega
    rcases h6 with rfl | rfl | rfl
    all_goals
      go_wp2
      refine bodyPost_ret (v := .tuple #[.int .i64 s, .slice ao3 n3 cap3, .slice bo3 n3' cap3', .int .i64 _]) (by (simp only [results, Try.results11]; go_simp; try rfl)) rfl ⟨s, _, ps, ns, _, _, _, _, _, _, rfl, P6.out, N6.out, G6.out⟩
  · have q : (v5 : Int) / 19 = 0 := by omega
    have q2 : (v5 : Int).tdiv 19 = 0 := by rw [Int.tdiv_eq_ediv_of_nonneg (by omega)]; exact q
    go_wp2
    refine bodyPost_ret (v := .tuple #[.int .i64 s, .slice ao3 n3 cap3, .slice bo3 n3' cap3', .int .i64 _]) (by (simp only [results, Try.results11]; go_simp; try rfl)) rfl ⟨s, _, ps, ns, _, _, _, _, _, _, rfl, P6.out, N6.out, G6.out⟩
end Go.Proofs.Ytedpkhboepahgaa
