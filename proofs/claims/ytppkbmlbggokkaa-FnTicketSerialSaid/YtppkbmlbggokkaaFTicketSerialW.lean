/- The walk of FnTicketSerial. -/
import Derived.Test.YtppkbmlbggokkaaDrawT
import Derived.Test.YtppkbmlbggokkaaTickN
import Derived.WalkKit
import Derived.Lib.Hide
import Derived.Deep.QuietTactic
import Derived.BigQuiet
namespace Go.Proofs.Ytppkbmlbggokkaa
open Go.RowKit
set_option maxHeartbeats 1000000 in
theorem fnTicketSerial_walk (ao : Option Addr) (n cap : Nat) (bo : Option Addr) (m cap' : Nat) (w : World) (h1 : CodeAt w ao n cap) (_h2 : CodeAt w bo m cap') :
    Calls Try.prog 6 #[.slice ao n cap, .slice bo m cap'] w fun e w' => e = .returned (.bool true) ∧ w.grownBy w' none := by
  by_cases a : (1048576 : Int) < n
  · go_enter Try.func6, Try.ntmps6
    go_wp2
    go_ret
    exact ⟨rfl, grown_refl _ _⟩
  · by_cases b : (1048576 : Int) < m
    · go_enter Try.func6, Try.ntmps6
      go_wp2
      go_ret
      exact ⟨rfl, grown_refl _ _⟩
    · go_enter Try.func6, Try.ntmps6
      go_wp2_with fail
      refine (drawTicketCheck_any _ _ _ _ h1).mono ?_
      rintro e w1 ⟨p, s, g, hp, hs, hg, rfl, g1⟩
      go_wp2_with fail
      refine (ticketCheck_any _ _ _ _).mono ?_
      rintro e w2 ⟨rfl, g2⟩
      have hB := blkN g2 (by simp)
      have c0 : w2.cell? ⟨w1.heap.size, 0, none⟩ = some (.int .i64 s) := blkC hB 0 rfl
      have c1 : w2.cell? ⟨w1.heap.size, 1, none⟩ = some (.int .i64 g) := blkC hB 1 rfl
      go_wp2_with fail
      refine (ticketCheckS_any _ _ _ _).mono ?_
      rintro e w3 ⟨rfl, g3⟩
      replace hB := blkK g3 hB (by simp)
      have gg : w.grownBy w3 none := grown_trans (grown_trans g1 (grown_trans (grown_alloc _ _ _) g2)) g3
      have z3 := blkL hB
      clear c0 c1 g1 g2 g3
      have c0 : w3.cell? ⟨w1.heap.size, 0, none⟩ = some (.int .i64 s) := blkC hB 0 rfl
      have c1 : w3.cell? ⟨w1.heap.size, 1, none⟩ = some (.int .i64 g) := blkC hB 1 rfl
      cases ht : tkB p s g
      · go_wp2_with fail
        go_ret
        exact ⟨rfl, (by (repeat (with_reducible (first | refine gDrew ?_ | refine gDrewN ?_ _ | refine gSet ?_ (by simp; try omega) _ | refine gAlloc ?_ _))); exact gg)⟩
      · have Ht := Lib.hid ht
        have hx : elB p = true ∧ numB s = true ∧ elB g = true := by
          have := ht
          simp only [tkB, Bool.and_eq_true] at this
          exact ⟨this.1.1.1, this.1.1.2, this.1.2⟩
        have bs := numB_iff.1 hx.2.1
        have bg := elB_iff.1 hx.2.2
        clear hx
        have m0 : (0:Int) ≤ (m : Int) % 989 := by omega
        have m1 : (m : Int) % 989 ≤ 4000 := by omega
        have m2 : (0:Int) ≤ g + (m : Int) % 990 := by omega
        have m3 : g + (m : Int) % 990 ≤ 4000 := by omega
        have hno : tkB p ((s + 1 + (m : Int) % 989 % 990) % 991) g = false := by
          cases hy : tkB p ((s + 1 + (m : Int) % 989 % 990) % 991) g
          · rfl
          · exact absurd (one_serial hy ht).symm (fun e => by omega)
        have Hn := Lib.hid hno
        clear hno
        go_wp2_with fail
        refine (another_any _ _ _ bs.1 (by omega) m0 (by omega)).mono ?_
        rintro e w4 ⟨rfl, rfl⟩
        go_wp2_with fail
        refine (element_any _ _ m2 (by omega)).mono ?_
        rintro e w5 ⟨rfl, rfl⟩
        go_wp2_with fail
        refine (ticketCheck_any _ _ _ _).mono ?_
        rintro e w6 ⟨rfl, g6⟩
        rw [Hn.out]
        have hT := blkK g6 (blkA (blkA hB)) (by simp)
        have hb := blkN g6 (by simp)
        simp only [World.size_alloc] at hb
        have ge : w.grownBy w6 none := grown_trans (gAlloc (gAlloc gg _) _) g6
        clear c0 c1 hB g6 gg
        have c0 : w6.cell? ⟨w1.heap.size, 0, none⟩ = some (.int .i64 s) := blkC hT 0 rfl
        have c1 : w6.cell? ⟨w1.heap.size, 1, none⟩ = some (.int .i64 g) := blkC hT 1 rfl
        have d0 : w6.cell? ⟨w3.heap.size + 1, 0, none⟩ = some (.int .i64 s) := blkC hb 0 rfl
        have d1 : w6.cell? ⟨w3.heap.size + 1, 1, none⟩ = some (.int .i64 (1 + (g + (m : Int) % 990) % 996)) := blkC hb 1 rfl
        clear hT hb
        by_cases hq : 1 + (g + (m : Int) % 990) % 996 = g
        · have hq' : (1 + (g + (m : Int) % 990) % 996 == g) = true := by simpa using hq
          have Hq := Lib.hid hq
          clear hq
          go_wp2_with fail
          go_ret
          exact ⟨rfl, (by (repeat (with_reducible (first | refine gDrew ?_ | refine gDrewN ?_ _ | refine gSet ?_ (by simp; try omega) _ | refine gAlloc ?_ _))); exact ge)⟩
        · have hq' : (1 + (g + (m : Int) % 990) % 996 == g) = false := by simpa using hq
          have hno : tkB p s (1 + (g + (m : Int) % 990) % 996) = false := by
            cases hx : tkB p s (1 + (g + (m : Int) % 990) % 996)
            · rfl
            · exact absurd (one_sign hx Ht.out) hq
          have Hm := Lib.hid hno
          clear hno hq
          go_wp2_with fail
          refine (ticketCheck_any _ _ _ _).mono ?_
          rintro e w7 ⟨rfl, g7⟩
          rw [Hm.out]
          go_wp2_with fail
          go_ret
          exact ⟨rfl, (by (repeat (with_reducible (first | refine gDrew ?_ | refine gDrewN ?_ _ | refine gSet ?_ (by simp; try omega) _ | refine gAlloc ?_ _))); exact (grown_trans ge g7))⟩
end Go.Proofs.Ytppkbmlbggokkaa
