/- The walk of FnTicket. -/
import Derived.Test.YtppkbmlbggokkaaDrawT
import Derived.Test.YtppkbmlbggokkaaTickN
import Derived.WalkKit
import Derived.Lib.Hide
import Derived.Deep.QuietTactic
import Derived.BigQuiet
namespace Go.Proofs.Ytppkbmlbggokkaa
open Go.RowKit
set_option maxHeartbeats 1000000 in
theorem fnTicket_walk (ao : Option Addr) (n cap : Nat) (bo : Option Addr) (m cap' : Nat) (w : World) (h1 : CodeAt w ao n cap) (_h2 : CodeAt w bo m cap') :
    Calls Try.prog 5 #[.slice ao n cap, .slice bo m cap'] w fun e w' => e = .returned (.bool true) ∧ w.grownBy w' none := by
  by_cases a : (1048576 : Int) < n
  · go_enter Try.func5, Try.ntmps5
    go_wp2
    go_ret
    exact ⟨rfl, grown_refl _ _⟩
  · by_cases b : (1048576 : Int) < m
    · go_enter Try.func5, Try.ntmps5
      go_wp2
      go_ret
      exact ⟨rfl, grown_refl _ _⟩
    · go_enter Try.func5, Try.ntmps5
      go_wp2_with fail
      refine (drawTicketMake_any _ _ _ _ h1).mono ?_
      rintro e w1 ⟨s, k, hs, hk, rfl, g1⟩
      go_wp2_with fail
      refine (ticketMake_any _ _ _).mono ?_
      rintro e w2 ⟨rfl, g2⟩
      go_wp2_with fail
      refine (ticketMakeS_any _ _ _).mono ?_
      rintro e w3 ⟨rfl, g3⟩
      have c0 := cellN g3 0 rfl
      have c1 := cellN g3 1 rfl
      have z3 := sizeN g3
      cases ht : tmB s k
      · go_wp2_with fail
        go_ret
        exact ⟨rfl, (by (repeat (with_reducible (first | refine gDrew ?_ | refine gDrewN ?_ _ | refine gSet ?_ (by simp; try omega) _ | refine gAlloc ?_ _))); exact (grown_trans (grown_trans g1 g2) (grown_trans (grown_alloc _ _ _) g3)))⟩
      · have hb : elB s = true ∧ numB k = true := by simpa [tmB] using ht
        have hn := numB_iff.1 hb.2
        have hsg := signed hb.1 hb.2
        have hpe := elB_iff.1 (prod_el hb.1 five_el)
        obtain ⟨eN, eG⟩ := tm_yes ht
        rw [← eG] at hsg
        have hsg' : tkB (prodZ s 5) (tmN s k) (tmG s k) = true := by rw [eN]; exact hsg
        have Hk := Lib.hid hsg'
        clear hsg hsg' eN eG hb
        go_wp2_with fail
        refine (publicOf_any _ _).mono ?_
        rintro e w4 ⟨rfl, rfl⟩
        have q0 : (0:Int) ≤ prodZ s 5 + (m : Int) % 990 := by omega
        have q1 : prodZ s 5 + (m : Int) % 990 ≤ 2000 := by omega
        go_wp2_with fail
        refine (element_any _ _ q0 (by omega)).mono ?_
        rintro e w5 ⟨rfl, rfl⟩
        go_wp2_with fail
        refine (ticketCheck_any _ _ _ _).mono ?_
        rintro e w6 ⟨rfl, g6⟩
        rw [Hk.out]
        have hB := blkK g6 (blkA (blkN g3 (by simp))) (by simp)
        have d0 : w6.cell? ⟨w2.heap.size, 0, none⟩ = some (.int .i64 (tmN s k)) := blkC hB 0 rfl
        have d1 : w6.cell? ⟨w2.heap.size, 1, none⟩ = some (.int .i64 (tmG s k)) := blkC hB 1 rfl
        have gg : w.grownBy w6 none := grown_trans (grown_trans (grown_trans g1 g2) (grown_trans (grown_alloc _ _ _) g3)) (grown_trans (grown_alloc _ _ _) g6)
        clear c0 c1 hB
        by_cases hq : 1 + (prodZ s 5 + (m : Int) % 990) % 996 = prodZ s 5
        · have hq' : (1 + (prodZ s 5 + (m : Int) % 990) % 996 == prodZ s 5) = true := by simpa using hq
          clear hq
          go_wp2_with fail
          go_ret
          exact ⟨rfl, (by (repeat (with_reducible (first | refine gDrew ?_ | refine gDrewN ?_ _ | refine gSet ?_ (by simp; try omega) _ | refine gAlloc ?_ _))); exact gg)⟩
        · have hq' : (1 + (prodZ s 5 + (m : Int) % 990) % 996 == prodZ s 5) = false := by simpa using hq
          have hno : tkB (1 + (prodZ s 5 + (m : Int) % 990) % 996) (tmN s k) (tmG s k) = false := by
            cases hx : tkB (1 + (prodZ s 5 + (m : Int) % 990) % 996) (tmN s k) (tmG s k)
            · rfl
            · exact absurd (one_key hx Hk.out) hq
          have Hn := Lib.hid hno
          clear hno hq
          go_wp2_with fail
          refine (ticketCheck_any _ _ _ _).mono ?_
          rintro e w7 ⟨rfl, g7⟩
          rw [Hn.out]
          go_wp2_with fail
          go_ret
          exact ⟨rfl, (by (repeat (with_reducible (first | refine gDrew ?_ | refine gDrewN ?_ _ | refine gSet ?_ (by simp; try omega) _ | refine gAlloc ?_ _))); exact (grown_trans gg g7))⟩
end Go.Proofs.Ytppkbmlbggokkaa
