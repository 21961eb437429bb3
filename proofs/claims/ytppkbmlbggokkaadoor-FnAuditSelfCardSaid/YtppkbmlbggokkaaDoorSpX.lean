/- The walks of FnSpendOrder, FnAuditSpend, FnAuditSelf. -/
import Derived.Test.YtppkbmlbggokkaaDoorSpendS
import Derived.Test.YtppkbmlbggokkaaDoorDrawD
import Derived.Test.YtppkbmlbggokkaaDoorAuditI
import Derived.WalkKit
import Derived.Lib.Hide
import Derived.Deep.QuietTactic
import Derived.BigQuiet
import Derived.Deep.RegionHeld3
namespace Go.Proofs.YtppkbmlbggokkaaDoor
open Go.RowKit
/-- two tickets in either order -/
theorem order_ok {xs : List Int} {p s g q u v : Int} (h : SpendP xs p s g) (h1 : SpendP (insL xs s) q u v) (h2 : SpendP xs q u v) :
    SpendP (insL xs u) p s g ∧ spL (insL xs u) p s g = spL (insL xs s) q u v := by
  have hus : u ≠ s := fun e => h1.2.1.2 (mem_insL.2 (.inl e))
  have hb : SpendP (insL xs u) p s g := by
    refine ⟨spent_ins h2.1 h2.2, ⟨h.2.1.1, fun e => ?_⟩, ?_⟩
    · rcases mem_insL.1 e with e | e
      · exact hus e.symm
      · exact h.2.1.2 e
    · have := h1.2.2
      rw [insL_len] at this ⊢
      exact this
  refine ⟨hb, ?_⟩
  rw [spL_yes hb.1 hb.2, spL_yes h1.1 h1.2]
  exact ins_comm (spent_sorted h.1) h2.2.1.2 h.2.1.2 hus
theorem spent_nil : SpentP [] := ⟨by simp, fun i hi => by simp at hi⟩
theorem spend_nil {xs : List Int} {p s g : Int} (h : SpendP xs p s g) : SpendP [] p s g := ⟨spent_nil, ⟨h.2.1.1, by simp⟩, by simp⟩
theorem inBoth_self (xs : List Int) : inBoth xs xs = xs := List.filter_eq_self.2 fun _ ha => pb_true ha
theorem audit_self {xs : List Int} (h : SpentP xs) : auditL xs xs = xs := by
  unfold auditL; rw [if_pos ⟨h, h⟩]; exact inBoth_self xs
theorem audit_nil (xs : List Int) : auditL xs [] = [] := by
  unfold auditL
  split
  · unfold inBoth
    exact List.filter_eq_nil_iff.2 fun _ _ => by rw [pb_false (by simp)]; simp
  · rfl
theorem audit_mem {xs ys : List Int} {a : Int} (hx : SpentP xs) (hy : SpentP ys) (h1 : a ∈ xs) (h2 : a ∈ ys) : a ∈ auditL xs ys := by
  unfold auditL; rw [if_pos ⟨hx, hy⟩]
  exact List.mem_filter.2 ⟨h1, pb_true h2⟩
set_option maxHeartbeats 2000000 in
theorem fnAuditSelf_walk (ao : Option Addr) (n cap : Nat) (w : World) (h1 : CodeAt w ao n cap) (he : RefAt w) :
    Calls Tryd.prog 9 #[.slice ao n cap] w fun e w' => e = .returned (.bool true) ∧ w.grownBy w' none := by
  by_cases a : (1048576 : Int) < n
  · go_enter Tryd.func9, Tryd.ntmps9
    go_wp2
    go_ret
    exact ⟨rfl, grown_refl _ _⟩
  · go_enter Tryd.func9, Tryd.ntmps9
    go_wp2_with fail
    refine (drawTicketSpend_any _ _ _ _ h1).mono ?_
    rintro e w1 ⟨xs, a1, c1, p, s, g, rfl, l1, i1, g1⟩
    obtain ⟨N, hN⟩ : ∃ N, xs.length = N := ⟨_, rfl⟩
    rw [hN] at i1 l1 ⊢
    have HN := Lib.hid hN
    have G1 := Lib.hid (gAlloc g1 (.cells #[.int .i64 s, .int .i64 g] 25))
    have I1 := Lib.hid (i1.grown (grown_alloc w1 (.cells #[.int .i64 s, .int .i64 g] 25) none))
    have D1 := Lib.hid (show (w1.alloc (.cells #[.int .i64 s, .int .i64 g] 25)).heap[w1.heap.size]? = some (.cells #[.int .i64 s, .int .i64 g] 25) from heap_alloc_new w1 _)
    have E1 := Lib.hid (he.grown G1.out)
    have HH1 := Lib.hid (Nat.le_trans g1.size (Nat.le_refl _))
    clear g1 i1 hN
    go_wp2_with fail
    refine (ticketSpend_any _ _ _ _ xs p s g I1.out E1.out).mono ?_
    rintro e w2 ⟨a2, c2, rfl, o2, g2⟩
    have D2 := Lib.hid (blkK g2 D1.out (by simp))
    have cs := blkC D2.out 0 rfl
    have cg := blkC D2.out 1 rfl
    have I2 := Lib.hid (I1.out.grown g2)
    go_wp2_with fail
    refine (ticketSpendS_any _ _ _ _ xs p s g I2.out (by omega)).mono ?_
    rintro e w3 ⟨a3, c3, rfl, o3, g3⟩
    obtain ⟨L, hL⟩ : ∃ L, spL xs p s g = L := ⟨_, rfl⟩
    have HL := Lib.hid hL
    rw [hL] at o2 o3 ⊢
    obtain ⟨K, hK⟩ : ∃ K, L.length = K := ⟨_, rfl⟩
    have HK := Lib.hid hK
    rw [hK] at o2 o3 ⊢
    obtain ⟨b, hb⟩ : ∃ b, pb (SpendP xs p s g) = b := ⟨_, rfl⟩
    have HB := Lib.hid hb
    rw [hb]
    have bb : (b != b) = false := by cases b <;> rfl
    have bb2 : (b == b) = true := by cases b <;> rfl
    have O2 := Lib.hid (OwnI.grown o2 g3)
    have O3 := Lib.hid o3
    have I3 := Lib.hid (I2.out.grown g3)
    have D3 := Lib.hid (blkK g3 D2.out (by simp))
    have G3 := Lib.hid (grown_trans G1.out (grown_trans g2 g3))
    clear o2 o3 g2 g3 cs cg hL hK hb I1 I2
    go_wp2_with fail
    refine (sameInts_any _ _ _ _ L _ _ _ L O2.out.ints.1 O3.out.ints.1).mono ?_
    rintro e w4 ⟨rfl, d4⟩
    rw [pb_true (p := L = L) rfl]
    have g4 := drewN_grown d4 none
    have O4 := Lib.hid (OwnI.grown O2.out g4)
    have P4 := Lib.hid (OwnI.grown O3.out g4)
    have I4 := Lib.hid (I3.out.grown g4)
    have D4 := Lib.hid (blkK g4 D3.out (by simp))
    have G4 := Lib.hid (grown_trans G3.out g4)
    have E4 := Lib.hid (he.grown G4.out)
    have cs := blkC D4.out 0 rfl
    have cg := blkC D4.out 1 rfl
    clear g4 d4 O2 O3 I3 D3 G3
    cases b with
    | false =>
      go_wp2_with fail
      refine (sameInts_any _ _ _ _ L _ _ _ L O4.out.ints.1 P4.out.ints.1).mono ?_
      rintro e w5 ⟨rfl, d5⟩
      rw [pb_true (p := L = L) rfl]
      have GG := Lib.hid (grown_trans G4.out (drewN_grown d5 none))
      clear d5
      go_wp2_with fail
      go_ret
      exact ⟨rfl, GG.out⟩
    | true =>
      have SP := Lib.hid (pb_iff.1 HB.out)
      have LY := Lib.hid (show L = insL xs s by rw [← HL.out, spL_yes SP.out.1 SP.out.2])
      have AL := Lib.hid (show auditL L L = L by rw [LY.out]; exact audit_self (spent_ins SP.out.1 SP.out.2))
      go_wp2_with fail
      refine (ticketAudit_any _ _ _ _ L _ _ _ L O4.out.ints.1 O4.out.ints.1 (fun a e => (O4.out.ints.2.2 a e).2)).mono ?_
      rintro e w5 ⟨a5, c5, rfl, o5, g5⟩
      rw [AL.out] at o5 ⊢
      have hK5 := HK.out
      rw [hK5] at o5 ⊢
      have O5 := Lib.hid o5
      have O6 := Lib.hid (OwnI.grown O4.out g5)
      have G5 := Lib.hid (grown_trans G4.out g5)
      clear o5 g5 hK5
      go_wp2_with fail
      refine (sameInts_any _ _ _ _ L _ _ _ L O5.out.ints.1 O6.out.ints.1).mono ?_
      rintro e w6 ⟨rfl, g6⟩
      rw [pb_true (p := L = L) rfl]
      replace g6 := drewN_grown g6 none
      have G6 := Lib.hid (grown_trans G5.out g6)
      have O7 := Lib.hid (OwnI.grown O6.out (gAlloc g6 (.cells #[] 3)))
      have N7 := Lib.hid (own_nil w6.heap.size w6 (Nat.le_refl _))
      clear g6
      go_wp2_with fail
      refine (ticketAudit_any _ _ _ _ L _ _ _ [] O7.out.ints.1 N7.out.ints.1 (fun a e => (N7.out.ints.2.2 a e).2)).mono ?_
      rintro e w8 ⟨a8, c8, rfl, o8, g8⟩
      rw [audit_nil]
      have G8 := Lib.hid (grown_trans (gAlloc G6.out (.cells #[] 3)) g8)
      clear o8 g8
      go_wp2_with fail
      go_ret
      exact ⟨rfl, G8.out⟩
set_option maxHeartbeats 2000000 in
theorem fnSpendOrder_walk (ao : Option Addr) (n cap : Nat) (bo : Option Addr) (m cap' : Nat) (w : World) (h1 : CodeAt w ao n cap) (h2 : CodeAt w bo m cap') (he : RefAt w) :
    Calls Tryd.prog 5 #[.slice ao n cap, .slice bo m cap'] w fun e w' => e = .returned (.bool true) ∧ w.grownBy w' none := by
  by_cases a : (1048576 : Int) < n
  · go_enter Tryd.func5, Tryd.ntmps5
    go_wp2
    go_ret
    exact ⟨rfl, grown_refl _ _⟩
  by_cases b : (1048576 : Int) < m
  · go_enter Tryd.func5, Tryd.ntmps5
    go_wp2
    go_ret
    exact ⟨rfl, grown_refl _ _⟩
  · go_enter Tryd.func5, Tryd.ntmps5
    go_wp2_with fail
    refine (drawTicketSpend_any _ _ _ _ h1).mono ?_
    rintro e w1 ⟨xs, a1, c1, p, s, g, rfl, l1, i1, g1⟩
    obtain ⟨N, hN⟩ : ∃ N, xs.length = N := ⟨_, rfl⟩
    rw [hN] at i1 l1 ⊢
    have HN := Lib.hid hN
    have G1 := Lib.hid (gAlloc g1 (.cells #[.int .i64 s, .int .i64 g] 25))
    have I1 := Lib.hid (i1.grown (grown_alloc w1 (.cells #[.int .i64 s, .int .i64 g] 25) none))
    have D1 := Lib.hid (show (w1.alloc (.cells #[.int .i64 s, .int .i64 g] 25)).heap[w1.heap.size]? = some (.cells #[.int .i64 s, .int .i64 g] 25) from heap_alloc_new w1 _)
    have E1 := Lib.hid (he.grown G1.out)
    have HH1 := Lib.hid (Nat.le_trans g1.size (Nat.le_refl _))
    clear g1 i1 hN
    go_wp2_with fail
    refine (ticketSpend_any _ _ _ _ xs p s g I1.out E1.out).mono ?_
    rintro e w2 ⟨a2, c2, rfl, o2, g2⟩
    have D2 := Lib.hid (blkK g2 D1.out (by simp))
    have cs := blkC D2.out 0 rfl
    have cg := blkC D2.out 1 rfl
    have I2 := Lib.hid (I1.out.grown g2)
    go_wp2_with fail
    refine (ticketSpendS_any _ _ _ _ xs p s g I2.out (by omega)).mono ?_
    rintro e w3 ⟨a3, c3, rfl, o3, g3⟩
    obtain ⟨L, hL⟩ : ∃ L, spL xs p s g = L := ⟨_, rfl⟩
    have HL := Lib.hid hL
    rw [hL] at o2 o3 ⊢
    obtain ⟨K, hK⟩ : ∃ K, L.length = K := ⟨_, rfl⟩
    have HK := Lib.hid hK
    rw [hK] at o2 o3 ⊢
    obtain ⟨b, hb⟩ : ∃ b, pb (SpendP xs p s g) = b := ⟨_, rfl⟩
    have HB := Lib.hid hb
    rw [hb]
    have bb : (b != b) = false := by cases b <;> rfl
    have bb2 : (b == b) = true := by cases b <;> rfl
    have O2 := Lib.hid (OwnI.grown o2 g3)
    have O3 := Lib.hid o3
    have I3 := Lib.hid (I2.out.grown g3)
    have D3 := Lib.hid (blkK g3 D2.out (by simp))
    have G3 := Lib.hid (grown_trans G1.out (grown_trans g2 g3))
    clear o2 o3 g2 g3 cs cg hL hK hb I1 I2
    go_wp2_with fail
    refine (sameInts_any _ _ _ _ L _ _ _ L O2.out.ints.1 O3.out.ints.1).mono ?_
    rintro e w4 ⟨rfl, d4⟩
    rw [pb_true (p := L = L) rfl]
    have g4 := drewN_grown d4 none
    have O4 := Lib.hid (OwnI.grown O2.out g4)
    have P4 := Lib.hid (OwnI.grown O3.out g4)
    have I4 := Lib.hid (I3.out.grown g4)
    have D4 := Lib.hid (blkK g4 D3.out (by simp))
    have G4 := Lib.hid (grown_trans G3.out g4)
    have E4 := Lib.hid (he.grown G4.out)
    have cs := blkC D4.out 0 rfl
    have cg := blkC D4.out 1 rfl
    clear g4 d4 O2 O3 I3 D3 G3
    cases b with
    | false =>
      go_wp2_with fail
      refine (sameInts_any _ _ _ _ L _ _ _ L O4.out.ints.1 P4.out.ints.1).mono ?_
      rintro e w5 ⟨rfl, d5⟩
      rw [pb_true (p := L = L) rfl]
      have GG := Lib.hid (grown_trans G4.out (drewN_grown d5 none))
      clear d5
      go_wp2_with fail
      go_ret
      exact ⟨rfl, GG.out⟩
    | true =>
      have SP := Lib.hid (pb_iff.1 HB.out)
      have LY := Lib.hid (show L = insL xs s by rw [← HL.out, spL_yes SP.out.1 SP.out.2])
      go_wp2_with fail
      refine (drawTicketSpend_any _ _ _ _ (h2.grown G4.out)).mono ?_
      rintro e w5 ⟨xs5, a5, c5, q, u, v, rfl, l5, i5, g5⟩
      obtain ⟨N5, hN5⟩ : ∃ N5, xs5.length = N5 := ⟨_, rfl⟩
      rw [hN5] at i5 l5 ⊢
      have g5' := gAlloc g5 (.cells #[.int .i64 u, .int .i64 v] 25)
      have X5 := Lib.hid (show (w5.alloc (.cells #[.int .i64 u, .int .i64 v] 25)).heap[w5.heap.size]? = some (.cells #[.int .i64 u, .int .i64 v] 25) from heap_alloc_new w5 _)
      have O5 := Lib.hid (OwnI.grown O4.out g5')
      have I5 := Lib.hid (I4.out.grown g5')
      have D5 := Lib.hid (blkK g5' D4.out (by simp))
      have E5 := Lib.hid (E4.out.grown g5')
      have G5 := Lib.hid (grown_trans G4.out g5')
      clear i5 g5 g5' hN5 cs cg
      go_wp2_with fail
      refine (ticketSpend_any _ _ _ _ L q u v O5.out.ints.1 E5.out).mono ?_
      rintro e w6 ⟨a6, c6, rfl, o6, g6⟩
      obtain ⟨A, hA⟩ : ∃ A, spL L q u v = A := ⟨_, rfl⟩
      have HA := Lib.hid hA
      rw [hA] at o6 ⊢
      obtain ⟨K6, hK6⟩ : ∃ K6, A.length = K6 := ⟨_, rfl⟩
      rw [hK6] at o6 ⊢
      obtain ⟨b6, hb6⟩ : ∃ b6, pb (SpendP L q u v) = b6 := ⟨_, rfl⟩
      have HB6 := Lib.hid hb6
      rw [hb6]
      have O6 := Lib.hid o6
      have I6 := Lib.hid (I5.out.grown g6)
      have X6 := Lib.hid (blkK g6 X5.out (by simp))
      have D6 := Lib.hid (blkK g6 D5.out (by simp))
      have E6 := Lib.hid (E5.out.grown g6)
      have G6 := Lib.hid (grown_trans G5.out g6)
      have cs := blkC X6.out 0 rfl
      have cg := blkC X6.out 1 rfl
      clear o6 g6 hA hK6 hb6 O5 I5 X5 D5 E5 G5
      go_wp2_with fail
      refine (ticketSpend_any _ _ _ _ xs q u v I6.out E6.out).mono ?_
      rintro e w7 ⟨a7, c7, rfl, o7, g7⟩
      obtain ⟨B, hB⟩ : ∃ B, spL xs q u v = B := ⟨_, rfl⟩
      have HBB := Lib.hid hB
      rw [hB] at o7 ⊢
      obtain ⟨K7, hK7⟩ : ∃ K7, B.length = K7 := ⟨_, rfl⟩
      rw [hK7] at o7 ⊢
      obtain ⟨b7, hb7⟩ : ∃ b7, pb (SpendP xs q u v) = b7 := ⟨_, rfl⟩
      have HB7 := Lib.hid hb7
      rw [hb7]
      have O7 := Lib.hid o7
      have A7 := Lib.hid (OwnI.grown O6.out g7)
      have D7 := Lib.hid (blkK g7 D6.out (by simp))
      have E7 := Lib.hid (E6.out.grown g7)
      have G7 := Lib.hid (grown_trans G6.out g7)
      have cs := blkC D7.out 0 rfl
      have cg := blkC D7.out 1 rfl
      clear o7 g7 hB hK7 hb7 O6 I6 X6 D6 E6 G6
      cases b6 with
      | false =>
        go_wp2_with fail
        go_ret
        exact ⟨rfl, G7.out⟩
      | true =>
        cases b7 with
        | false =>
          go_wp2_with fail
          go_ret
          exact ⟨rfl, G7.out⟩
        | true =>
          have S7 := pb_iff.1 HB7.out
          have S6 := pb_iff.1 HB6.out
          rw [LY.out] at S6
          have OK := order_ok SP.out S6 S7
          have HBI : B = insL xs u := by rw [← HBB.out, spL_yes S7.1 S7.2]
          have PB := Lib.hid (show pb (SpendP B p s g) = true from pb_true (by rw [HBI]; exact OK.1))
          have SL := Lib.hid (show spL B p s g = A by rw [HBI, ← HA.out, LY.out]; exact OK.2)
          clear S6 S7 OK HBI
          go_wp2_with fail
          refine (ticketSpend_any _ _ _ _ B p s g O7.out.ints.1 E7.out).mono ?_
          rintro e w8 ⟨a8, c8, rfl, o8, g8⟩
          rw [SL.out] at o8 ⊢
          rw [PB.out]
          have O8 := Lib.hid o8
          have A8 := Lib.hid (OwnI.grown A7.out g8)
          have G8 := Lib.hid (grown_trans G7.out g8)
          clear o8 g8
          go_wp2_with fail
          refine (sameInts_any _ _ _ _ A _ _ _ A O8.out.ints.1 A8.out.ints.1).mono ?_
          rintro e w9 ⟨rfl, g9⟩
          rw [pb_true (p := A = A) rfl]
          replace g9 := drewN_grown g9 none
          have G9 := Lib.hid (grown_trans G8.out g9)
          go_wp2_with fail
          go_ret
          exact ⟨rfl, G9.out⟩
set_option maxHeartbeats 2000000 in
theorem fnAuditSpend_walk (ao : Option Addr) (n cap : Nat) (bo : Option Addr) (m cap' : Nat) (w : World) (h1 : CodeAt w ao n cap) (_h2 : CodeAt w bo m cap') (he : RefAt w) :
    Calls Tryd.prog 3 #[.slice ao n cap, .slice bo m cap'] w fun e w' => e = .returned (.bool true) ∧ w.grownBy w' none := by
  by_cases a : (1048576 : Int) < n
  · go_enter Tryd.func3, Tryd.ntmps3
    go_wp2
    go_ret
    exact ⟨rfl, grown_refl _ _⟩
  by_cases b : (1048576 : Int) < m
  · go_enter Tryd.func3, Tryd.ntmps3
    go_wp2
    go_ret
    exact ⟨rfl, grown_refl _ _⟩
  · go_enter Tryd.func3, Tryd.ntmps3
    go_wp2_with fail
    refine (drawTicketSpend_any _ _ _ _ h1).mono ?_
    rintro e w1 ⟨xs, a1, c1, p, s, g, rfl, l1, i1, g1⟩
    obtain ⟨N, hN⟩ : ∃ N, xs.length = N := ⟨_, rfl⟩
    rw [hN] at i1 l1 ⊢
    have HN := Lib.hid hN
    have G1 := Lib.hid (gAlloc g1 (.cells #[.int .i64 s, .int .i64 g] 25))
    have I1 := Lib.hid (i1.grown (grown_alloc w1 (.cells #[.int .i64 s, .int .i64 g] 25) none))
    have D1 := Lib.hid (show (w1.alloc (.cells #[.int .i64 s, .int .i64 g] 25)).heap[w1.heap.size]? = some (.cells #[.int .i64 s, .int .i64 g] 25) from heap_alloc_new w1 _)
    have E1 := Lib.hid (he.grown G1.out)
    have HH1 := Lib.hid (Nat.le_trans g1.size (Nat.le_refl _))
    clear g1 i1 hN
    go_wp2_with fail
    refine (ticketSpend_any _ _ _ _ xs p s g I1.out E1.out).mono ?_
    rintro e w2 ⟨a2, c2, rfl, o2, g2⟩
    have D2 := Lib.hid (blkK g2 D1.out (by simp))
    have cs := blkC D2.out 0 rfl
    have cg := blkC D2.out 1 rfl
    have I2 := Lib.hid (I1.out.grown g2)
    go_wp2_with fail
    refine (ticketSpendS_any _ _ _ _ xs p s g I2.out (by omega)).mono ?_
    rintro e w3 ⟨a3, c3, rfl, o3, g3⟩
    obtain ⟨L, hL⟩ : ∃ L, spL xs p s g = L := ⟨_, rfl⟩
    have HL := Lib.hid hL
    rw [hL] at o2 o3 ⊢
    obtain ⟨K, hK⟩ : ∃ K, L.length = K := ⟨_, rfl⟩
    have HK := Lib.hid hK
    rw [hK] at o2 o3 ⊢
    obtain ⟨b, hb⟩ : ∃ b, pb (SpendP xs p s g) = b := ⟨_, rfl⟩
    have HB := Lib.hid hb
    rw [hb]
    have bb : (b != b) = false := by cases b <;> rfl
    have bb2 : (b == b) = true := by cases b <;> rfl
    have O2 := Lib.hid (OwnI.grown o2 g3)
    have O3 := Lib.hid o3
    have I3 := Lib.hid (I2.out.grown g3)
    have D3 := Lib.hid (blkK g3 D2.out (by simp))
    have G3 := Lib.hid (grown_trans G1.out (grown_trans g2 g3))
    clear o2 o3 g2 g3 cs cg hL hK hb I1 I2
    go_wp2_with fail
    refine (sameInts_any _ _ _ _ L _ _ _ L O2.out.ints.1 O3.out.ints.1).mono ?_
    rintro e w4 ⟨rfl, d4⟩
    rw [pb_true (p := L = L) rfl]
    have g4 := drewN_grown d4 none
    have O4 := Lib.hid (OwnI.grown O2.out g4)
    have P4 := Lib.hid (OwnI.grown O3.out g4)
    have I4 := Lib.hid (I3.out.grown g4)
    have D4 := Lib.hid (blkK g4 D3.out (by simp))
    have G4 := Lib.hid (grown_trans G3.out g4)
    have E4 := Lib.hid (he.grown G4.out)
    have cs := blkC D4.out 0 rfl
    have cg := blkC D4.out 1 rfl
    clear g4 d4 O2 O3 I3 D3 G3
    cases b with
    | false =>
      go_wp2_with fail
      refine (sameInts_any _ _ _ _ L _ _ _ L O4.out.ints.1 P4.out.ints.1).mono ?_
      rintro e w5 ⟨rfl, d5⟩
      rw [pb_true (p := L = L) rfl]
      have GG := Lib.hid (grown_trans G4.out (drewN_grown d5 none))
      clear d5
      go_wp2_with fail
      go_ret
      exact ⟨rfl, GG.out⟩
    | true =>
      have SP := Lib.hid (pb_iff.1 HB.out)
      have LY := Lib.hid (show L = insL xs s by rw [← HL.out, spL_yes SP.out.1 SP.out.2])
      have N0 := spend_nil SP.out
      have PB := Lib.hid (show pb (SpendP [] p s g) = true from pb_true N0)
      obtain ⟨X, hX⟩ : ∃ X, spL [] p s g = X := ⟨_, rfl⟩
      have HX := Lib.hid hX
      have MS := Lib.hid (show s ∈ auditL L X from audit_mem (by rw [LY.out]; exact spent_ins SP.out.1 SP.out.2) (by rw [← hX, spL_yes N0.1 N0.2]; exact spent_ins N0.1 N0.2) (by rw [LY.out]; exact mem_insL.2 (.inl rfl)) (by rw [← hX, spL_yes N0.1 N0.2]; exact mem_insL.2 (.inl rfl)))
      have g5 := grown_alloc w4 (.cells #[] 3) none
      have N5 := Lib.hid (own_nil w4.heap.size w4 (Nat.le_refl _))
      have O5 := Lib.hid (OwnI.grown O4.out g5)
      have D5 := Lib.hid (blkK g5 D4.out (by simp))
      have E5 := Lib.hid (E4.out.grown g5)
      have G5 := Lib.hid (grown_trans G4.out g5)
      have ds := blkC D5.out 0 rfl
      have dg := blkC D5.out 1 rfl
      clear g5 N0 hX
      go_wp2_with fail
      refine (ticketSpend_any _ _ _ _ [] p s g N5.out.ints.1 E5.out).mono ?_
      rintro e w6 ⟨a6, c6, rfl, o6, g6⟩
      rw [HX.out] at o6 ⊢
      rw [PB.out]
      obtain ⟨K6, hK6⟩ : ∃ K6, X.length = K6 := ⟨_, rfl⟩
      rw [hK6] at o6 ⊢
      have g6' := gDrew g6
      have X6 := Lib.hid (OwnI.grown o6 (gDrew (grown_refl w6 none)))
      have O6 := Lib.hid (OwnI.grown O5.out g6')
      have D6 := Lib.hid (blkK g6' D5.out (by simp))
      have G6 := Lib.hid (grown_trans G5.out g6')
      have es := blkC D6.out 0 rfl
      have m0 : (0 : Int) ≤ (m : Int) := by omega
      clear g6 g6' o6 hK6 cs cg ds dg
      go_wp2_with fail
      go_region_held3 (fun w' => w'.cell? ⟨w1.heap.size, 0, none⟩ = some (.int .i64 s)) (first | go_keep | exact es | exact fs)
        (first
          | (go_at_call 15; refine (ticketAudit_any _ _ _ _ L _ _ _ X O6.out.ints.1 X6.out.ints.1 (fun a e => (X6.out.ints.2.2 a e).2)).mono ?_; rintro e w7 ⟨a7, c7, rfl, o7, g7⟩; have fs := g7.cell es (by simp))
          | (go_at_call 14; refine (hasInt_any _ _ _ _ (auditL L X) s o7.ints.1).mono ?_; rintro e w8 ⟨rfl, rfl⟩; rw [pb_true MS.out]))
      all_goals go_wp2
      all_goals go_ret
      all_goals exact ⟨rfl, grown_trans G6.out g7⟩
end Go.Proofs.YtppkbmlbggokkaaDoor
