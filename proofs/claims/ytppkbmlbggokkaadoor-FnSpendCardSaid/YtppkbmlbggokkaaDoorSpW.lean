/- The walks of FnSpendTwice, FnSpendRefused, FnSpend. -/
import Derived.Test.YtppkbmlbggokkaaDoorSpendS
import Derived.Test.YtppkbmlbggokkaaDoorDrawD
import Derived.Test.YtppkbmlbggokkaaDoorAuditI
import Derived.WalkKit
import Derived.Lib.Hide
import Derived.Deep.QuietTactic
import Derived.BigQuiet
namespace Go.Proofs.YtppkbmlbggokkaaDoor
open Go.RowKit
set_option maxHeartbeats 2000000 in
theorem fnSpendTwice_walk (ao : Option Addr) (n cap : Nat) (w : World) (h1 : CodeAt w ao n cap) (he : RefAt w) :
    Calls Tryd.prog 6 #[.slice ao n cap] w fun e w' => e = .returned (.bool true) ∧ w.grownBy w' none := by
  by_cases a : (1048576 : Int) < n
  · go_enter Tryd.func6, Tryd.ntmps6
    go_wp2
    go_ret
    exact ⟨rfl, grown_refl _ _⟩
  · go_enter Tryd.func6, Tryd.ntmps6
    go_wp2_with fail
    refine (drawTicketSpend_any _ _ _ _ h1).mono ?_
    rintro e w1 ⟨xs, a1, c1, p, s, g, rfl, l1, i1, g1⟩
    obtain ⟨N, hN⟩ : ∃ N, xs.length = N := ⟨_, rfl⟩
    rw [hN] at i1 l1 ⊢
    have HN := Lib.hid hN
    have G1 := Lib.hid (gAlloc g1 (.cells #[.int .i64 s, .int .i64 g] 25))
    have I1 := Lib.hid (i1.grown (grown_alloc w1 (.cells #[.int .i64 s, .int .i64 g] 25) none))
    have D1 := Lib.hid (show (w1.alloc (.cells #[.int .i64 s, .int .i64 g] 25)).heap[w1.heap.size]? = some (.cells #[.int .i64 s, .int .i64 g] 25) from heap_alloc_new w1 _)
    have E1 := Lib.hid (he.grown G1.out)
    have HH1 := Lib.hid (Nat.le_trans g1.size (Nat.le_refl _))
    clear g1 i1 hN
    go_wp2_with fail
    refine (ticketSpend_any _ _ _ _ xs p s g I1.out E1.out).mono ?_
    rintro e w2 ⟨a2, c2, rfl, o2, g2⟩
    have D2 := Lib.hid (blkK g2 D1.out (by simp))
    have cs := blkC D2.out 0 rfl
    have cg := blkC D2.out 1 rfl
    have I2 := Lib.hid (I1.out.grown g2)
    go_wp2_with fail
    refine (ticketSpendS_any _ _ _ _ xs p s g I2.out (by omega)).mono ?_
    rintro e w3 ⟨a3, c3, rfl, o3, g3⟩
    obtain ⟨L, hL⟩ : ∃ L, spL xs p s g = L := ⟨_, rfl⟩
    have HL := Lib.hid hL
    rw [hL] at o2 o3 ⊢
    obtain ⟨K, hK⟩ : ∃ K, L.length = K := ⟨_, rfl⟩
    have HK := Lib.hid hK
    rw [hK] at o2 o3 ⊢
    obtain ⟨b, hb⟩ : ∃ b, pb (SpendP xs p s g) = b := ⟨_, rfl⟩
    have HB := Lib.hid hb
    rw [hb]
    have bb : (b != b) = false := by cases b <;> rfl
    have bb2 : (b == b) = true := by cases b <;> rfl
    have O2 := Lib.hid (OwnI.grown o2 g3)
    have O3 := Lib.hid o3
    have I3 := Lib.hid (I2.out.grown g3)
    have D3 := Lib.hid (blkK g3 D2.out (by simp))
    have G3 := Lib.hid (grown_trans G1.out (grown_trans g2 g3))
    clear o2 o3 g2 g3 cs cg hL hK hb I1 I2
    go_wp2_with fail
    refine (sameInts_any _ _ _ _ L _ _ _ L O2.out.ints.1 O3.out.ints.1).mono ?_
    rintro e w4 ⟨rfl, d4⟩
    rw [pb_true (p := L = L) rfl]
    have g4 := drewN_grown d4 none
    have O4 := Lib.hid (OwnI.grown O2.out g4)
    have P4 := Lib.hid (OwnI.grown O3.out g4)
    have I4 := Lib.hid (I3.out.grown g4)
    have D4 := Lib.hid (blkK g4 D3.out (by simp))
    have G4 := Lib.hid (grown_trans G3.out g4)
    have E4 := Lib.hid (he.grown G4.out)
    have cs := blkC D4.out 0 rfl
    have cg := blkC D4.out 1 rfl
    clear g4 d4 O2 O3 I3 D3 G3
    cases b with
    | false =>
      go_wp2_with fail
      refine (sameInts_any _ _ _ _ L _ _ _ L O4.out.ints.1 P4.out.ints.1).mono ?_
      rintro e w5 ⟨rfl, d5⟩
      rw [pb_true (p := L = L) rfl]
      have GG := Lib.hid (grown_trans G4.out (drewN_grown d5 none))
      clear d5
      go_wp2_with fail
      go_ret
      exact ⟨rfl, GG.out⟩
    | true =>
      have SP := Lib.hid (pb_iff.1 HB.out)
      have LY := Lib.hid (show L = insL xs s by rw [← HL.out, spL_yes SP.out.1 SP.out.2])
      have SL2 := Lib.hid (show spL L p s g = L by rw [LY.out]; exact spL_no (spent_ins SP.out.1 SP.out.2) spent_twice)
      have PB2 := Lib.hid (show pb (SpendP L p s g) = false from pb_false fun e => by rw [LY.out] at e; exact spent_twice e.2)
      go_wp2_with fail
      refine (ticketSpend_any _ _ _ _ L p s g O4.out.ints.1 E4.out).mono ?_
      rintro e w5 ⟨a5, c5, rfl, o5, g5⟩
      rw [SL2.out] at o5 ⊢
      rw [PB2.out]
      have hK5 := HK.out
      rw [hK5] at o5 ⊢
      have O5 := Lib.hid o5
      have O6 := Lib.hid (OwnI.grown O4.out g5)
      have G5 := Lib.hid (grown_trans G4.out g5)
      clear o5 g5 hK5
      go_wp2_with fail
      refine (sameInts_any _ _ _ _ L _ _ _ L O5.out.ints.1 O6.out.ints.1).mono ?_
      rintro e w6 ⟨rfl, g6⟩
      rw [pb_true (p := L = L) rfl]
      replace g6 := drewN_grown g6 none
      go_wp2_with fail
      go_ret
      exact ⟨rfl, grown_trans G5.out g6⟩
set_option maxHeartbeats 2000000 in
theorem fnSpendRefused_walk (ao : Option Addr) (n cap : Nat) (w : World) (h1 : CodeAt w ao n cap) (he : RefAt w) :
    Calls Tryd.prog 8 #[.slice ao n cap] w fun e w' => e = .returned (.bool true) ∧ w.grownBy w' none := by
  by_cases a : (1048576 : Int) < n
  · go_enter Tryd.func8, Tryd.ntmps8
    go_wp2
    go_ret
    exact ⟨rfl, grown_refl _ _⟩
  · go_enter Tryd.func8, Tryd.ntmps8
    go_wp2_with fail
    refine (drawTicketSpend_any _ _ _ _ h1).mono ?_
    rintro e w1 ⟨xs, a1, c1, p, s, g, rfl, l1, i1, g1⟩
    obtain ⟨N, hN⟩ : ∃ N, xs.length = N := ⟨_, rfl⟩
    rw [hN] at i1 l1 ⊢
    have HN := Lib.hid hN
    have G1 := Lib.hid (gAlloc g1 (.cells #[.int .i64 s, .int .i64 g] 25))
    have I1 := Lib.hid (i1.grown (grown_alloc w1 (.cells #[.int .i64 s, .int .i64 g] 25) none))
    have D1 := Lib.hid (show (w1.alloc (.cells #[.int .i64 s, .int .i64 g] 25)).heap[w1.heap.size]? = some (.cells #[.int .i64 s, .int .i64 g] 25) from heap_alloc_new w1 _)
    have E1 := Lib.hid (he.grown G1.out)
    have HH1 := Lib.hid (Nat.le_trans g1.size (Nat.le_refl _))
    clear g1 i1 hN
    go_wp2_with fail
    refine (ticketSpend_any _ _ _ _ xs p s g I1.out E1.out).mono ?_
    rintro e w2 ⟨a2, c2, rfl, o2, g2⟩
    have D2 := Lib.hid (blkK g2 D1.out (by simp))
    have cs := blkC D2.out 0 rfl
    have cg := blkC D2.out 1 rfl
    have I2 := Lib.hid (I1.out.grown g2)
    go_wp2_with fail
    refine (ticketSpendS_any _ _ _ _ xs p s g I2.out (by omega)).mono ?_
    rintro e w3 ⟨a3, c3, rfl, o3, g3⟩
    obtain ⟨L, hL⟩ : ∃ L, spL xs p s g = L := ⟨_, rfl⟩
    have HL := Lib.hid hL
    rw [hL] at o2 o3 ⊢
    obtain ⟨K, hK⟩ : ∃ K, L.length = K := ⟨_, rfl⟩
    have HK := Lib.hid hK
    rw [hK] at o2 o3 ⊢
    obtain ⟨b, hb⟩ : ∃ b, pb (SpendP xs p s g) = b := ⟨_, rfl⟩
    have HB := Lib.hid hb
    rw [hb]
    have bb : (b != b) = false := by cases b <;> rfl
    have bb2 : (b == b) = true := by cases b <;> rfl
    have O2 := Lib.hid (OwnI.grown o2 g3)
    have O3 := Lib.hid o3
    have I3 := Lib.hid (I2.out.grown g3)
    have D3 := Lib.hid (blkK g3 D2.out (by simp))
    have G3 := Lib.hid (grown_trans G1.out (grown_trans g2 g3))
    clear o2 o3 g2 g3 cs cg hL hK hb I1 I2
    go_wp2_with fail
    refine (sameInts_any _ _ _ _ L _ _ _ L O2.out.ints.1 O3.out.ints.1).mono ?_
    rintro e w4 ⟨rfl, d4⟩
    rw [pb_true (p := L = L) rfl]
    have g4 := drewN_grown d4 none
    have O4 := Lib.hid (OwnI.grown O2.out g4)
    have P4 := Lib.hid (OwnI.grown O3.out g4)
    have I4 := Lib.hid (I3.out.grown g4)
    have D4 := Lib.hid (blkK g4 D3.out (by simp))
    have G4 := Lib.hid (grown_trans G3.out g4)
    have E4 := Lib.hid (he.grown G4.out)
    have cs := blkC D4.out 0 rfl
    have cg := blkC D4.out 1 rfl
    clear g4 d4 O2 O3 I3 D3 G3
    cases b with
    | true =>
      go_wp2_with fail
      refine (sameInts_any _ _ _ _ L _ _ _ L O4.out.ints.1 P4.out.ints.1).mono ?_
      rintro e w5 ⟨rfl, d5⟩
      rw [pb_true (p := L = L) rfl]
      have GG := Lib.hid (grown_trans G4.out (drewN_grown d5 none))
      clear d5
      go_wp2_with fail
      go_ret
      exact ⟨rfl, GG.out⟩
    | false =>
      by_cases hK0 : K = 0
      · subst hK0
        go_wp2_with fail
        refine (sameInts_any _ _ _ _ L _ _ _ L O4.out.ints.1 P4.out.ints.1).mono ?_
        rintro e w5 ⟨rfl, d5⟩
        rw [pb_true (p := L = L) rfl]
        have GG := Lib.hid (grown_trans G4.out (drewN_grown d5 none))
        clear d5
        go_wp2_with fail
        go_ret
        exact ⟨rfl, GG.out⟩
      · have k0 : ((K : Int) == 0) = false := by simp; omega
        have hs : SpentP xs := by
          refine Classical.byContradiction fun e => hK0 ?_
          rw [← HK.out, ← HL.out, spL_bad e]; rfl
        have NG := Lib.hid (show ¬ GoodP xs p s g from fun e => by have := pb_not.1 HB.out; exact this ⟨hs, e⟩)
        have LY := Lib.hid (show L = xs by rw [← HL.out, spL_no hs NG.out])
        have hKN : K = N := by rw [← HK.out, LY.out, HN.out]
        obtain rfl := hKN
        have O5 := Lib.hid (show IntsAt w4 a2 K c2 xs by rw [← LY.out]; exact O4.out.ints.1)
        clear hs
        go_wp2_with fail
        refine (sameInts_any _ _ _ _ xs _ _ _ xs O5.out I4.out).mono ?_
        rintro e w5 ⟨rfl, g5⟩
        rw [pb_true (p := xs = xs) rfl]
        replace g5 := drewN_grown g5 none
        have G5 := Lib.hid (grown_trans G4.out g5)
        have I5 := Lib.hid (I4.out.grown g5)
        have D5 := Lib.hid (blkK g5 D4.out (by simp))
        have cs := blkC D5.out 0 rfl
        have cg := blkC D5.out 1 rfl
        clear g5
        go_wp2_with fail
        refine (ticketCheck_any p s g _).mono ?_
        rintro e w6 ⟨rfl, g6⟩
        have G6 := Lib.hid (grown_trans G5.out g6)
        have I6 := Lib.hid (I5.out.grown g6)
        have D6 := Lib.hid (blkK g6 D5.out (by simp))
        have cs := blkC D6.out 0 rfl
        have cg := blkC D6.out 1 rfl
        clear g6
        cases ht : tkB p s g with
        | false =>
          go_wp2_with fail
          go_ret
          exact ⟨rfl, G6.out⟩
        | true =>
          have HT := Lib.hid ht
          clear ht
          go_wp2_with fail
          refine (hasInt_any _ _ _ _ xs s I6.out).mono ?_
          rintro e w7 ⟨rfl, rfl⟩
          by_cases hm : s ∈ xs
          · rw [pb_true hm]
            clear hm
            go_wp2_with fail
            go_ret
            exact ⟨rfl, G6.out⟩
          · have h20 : ((K : Int) == 20) = true := by
              have : ¬ xs.length < 20 := fun e => NG.out ⟨⟨HT.out, hm⟩, e⟩
              have := HN.out
              have hx : xs.length ≤ 20 := by
                refine Classical.byContradiction fun e => hK0 ?_
                rw [← HK.out, ← HL.out, spL_bad fun e2 => e e2.1]; rfl
              simp; omega
            rw [pb_false hm]
            clear hm
            go_wp2_with fail
            go_ret
            exact ⟨rfl, G6.out⟩
set_option maxHeartbeats 2000000 in
theorem fnSpend_walk (ao : Option Addr) (n cap : Nat) (w : World) (h1 : CodeAt w ao n cap) (he : RefAt w) :
    Calls Tryd.prog 7 #[.slice ao n cap] w fun e w' => e = .returned (.bool true) ∧ w.grownBy w' none := by
  by_cases a : (1048576 : Int) < n
  · go_enter Tryd.func7, Tryd.ntmps7
    go_wp2
    go_ret
    exact ⟨rfl, grown_refl _ _⟩
  · go_enter Tryd.func7, Tryd.ntmps7
    go_wp2_with fail
    refine (drawTicketSpend_any _ _ _ _ h1).mono ?_
    rintro e w1 ⟨xs, a1, c1, p, s, g, rfl, l1, i1, g1⟩
    obtain ⟨N, hN⟩ : ∃ N, xs.length = N := ⟨_, rfl⟩
    rw [hN] at i1 l1 ⊢
    have HN := Lib.hid hN
    have G1 := Lib.hid (gAlloc g1 (.cells #[.int .i64 s, .int .i64 g] 25))
    have I1 := Lib.hid (i1.grown (grown_alloc w1 (.cells #[.int .i64 s, .int .i64 g] 25) none))
    have D1 := Lib.hid (show (w1.alloc (.cells #[.int .i64 s, .int .i64 g] 25)).heap[w1.heap.size]? = some (.cells #[.int .i64 s, .int .i64 g] 25) from heap_alloc_new w1 _)
    have E1 := Lib.hid (he.grown G1.out)
    have HH1 := Lib.hid (Nat.le_trans g1.size (Nat.le_refl _))
    clear g1 i1 hN
    go_wp2_with fail
    refine (ticketSpend_any _ _ _ _ xs p s g I1.out E1.out).mono ?_
    rintro e w2 ⟨a2, c2, rfl, o2, g2⟩
    have D2 := Lib.hid (blkK g2 D1.out (by simp))
    have cs := blkC D2.out 0 rfl
    have cg := blkC D2.out 1 rfl
    have I2 := Lib.hid (I1.out.grown g2)
    go_wp2_with fail
    refine (ticketSpendS_any _ _ _ _ xs p s g I2.out (by omega)).mono ?_
    rintro e w3 ⟨a3, c3, rfl, o3, g3⟩
    obtain ⟨L, hL⟩ : ∃ L, spL xs p s g = L := ⟨_, rfl⟩
    have HL := Lib.hid hL
    rw [hL] at o2 o3 ⊢
    obtain ⟨K, hK⟩ : ∃ K, L.length = K := ⟨_, rfl⟩
    have HK := Lib.hid hK
    rw [hK] at o2 o3 ⊢
    obtain ⟨b, hb⟩ : ∃ b, pb (SpendP xs p s g) = b := ⟨_, rfl⟩
    have HB := Lib.hid hb
    rw [hb]
    have bb : (b != b) = false := by cases b <;> rfl
    have bb2 : (b == b) = true := by cases b <;> rfl
    have O2 := Lib.hid (OwnI.grown o2 g3)
    have O3 := Lib.hid o3
    have I3 := Lib.hid (I2.out.grown g3)
    have D3 := Lib.hid (blkK g3 D2.out (by simp))
    have G3 := Lib.hid (grown_trans G1.out (grown_trans g2 g3))
    clear o2 o3 g2 g3 cs cg hL hK hb I1 I2
    go_wp2_with fail
    refine (sameInts_any _ _ _ _ L _ _ _ L O2.out.ints.1 O3.out.ints.1).mono ?_
    rintro e w4 ⟨rfl, d4⟩
    rw [pb_true (p := L = L) rfl]
    have g4 := drewN_grown d4 none
    have O4 := Lib.hid (OwnI.grown O2.out g4)
    have P4 := Lib.hid (OwnI.grown O3.out g4)
    have I4 := Lib.hid (I3.out.grown g4)
    have D4 := Lib.hid (blkK g4 D3.out (by simp))
    have G4 := Lib.hid (grown_trans G3.out g4)
    have E4 := Lib.hid (he.grown G4.out)
    have cs := blkC D4.out 0 rfl
    have cg := blkC D4.out 1 rfl
    clear g4 d4 O2 O3 I3 D3 G3
    cases b with
    | false =>
      go_wp2_with fail
      refine (sameInts_any _ _ _ _ L _ _ _ L O4.out.ints.1 P4.out.ints.1).mono ?_
      rintro e w5 ⟨rfl, d5⟩
      rw [pb_true (p := L = L) rfl]
      have GG := Lib.hid (grown_trans G4.out (drewN_grown d5 none))
      clear d5
      go_wp2_with fail
      go_ret
      exact ⟨rfl, GG.out⟩
    | true =>
      have SP := Lib.hid (pb_iff.1 HB.out)
      have LY := Lib.hid (show L = insL xs s by rw [← HL.out, spL_yes SP.out.1 SP.out.2])
      have hKN : K = N + 1 := by rw [← HK.out, LY.out, insL_len, HN.out]
      have SO := Lib.hid (show L.Pairwise (· < ·) by rw [LY.out]; exact spent_sorted (spent_ins SP.out.1 SP.out.2))
      have IN := Lib.hid (show ∀ i, i < N → xs.getD i 0 ∈ L from fun i hi => by
        rw [LY.out]
        refine mem_insL.2 (.inr ?_)
        rw [List.getD_eq_getElem?_getD, List.getElem?_eq_getElem (by rw [HN.out]; exact hi)]; exact List.getElem_mem _)
      have MS := Lib.hid (show s ∈ L by rw [LY.out]; exact mem_insL.2 (.inl rfl))
      subst hKN
      go_wp2_with fail
      go_loop [10] (fun q => ∃ i : Nat, i ≤ N ∧ q = .int .i64 i) (fun q => N - (intOf q).toNat)
      case atStart => exact ⟨0, by omega, rfl⟩
      case round =>
        obtain ⟨i, hi, rfl⟩ := hrel
        by_cases hin : i < N
        · obtain ⟨b, off, rfl, -, ca⟩ := IntsAt.addr I4.out (by omega)
          have ci := ca i hin
          have HI := Lib.hid (IN.out i hin)
          obtain ⟨x, hx⟩ : ∃ x, xs.getD i 0 = x := ⟨_, rfl⟩
          rw [hx] at ci HI
          have i0 : (0 : Int) ≤ (i : Int) := by omega
          have i1 : (i : Int) < N := by omega
          clear ca hx
          go_wp2_with fail
          refine (hasInt_any _ _ _ _ L x O4.out.ints.1).mono ?_
          rintro e w7 ⟨rfl, rfl⟩
          rw [pb_true HI.out]
          go_wp2
          go_round
          case rel => exact ⟨i + 1, by omega, by go_num⟩
          case measure => simp [intOf]; omega
        · have hiN : N = i := by omega
          subst hiN
          go_wp2_with fail
          go_loopw [11] (fun q wr => ∃ i : Nat, 1 ≤ i ∧ i ≤ N + 1 ∧ q = .int .i64 i ∧ Hid (∃ d, wr = w4.drewN d)) (fun q _ => N + 1 - (intOf q).toNat)
          case atStart => exact ⟨1, by omega, by omega, rfl, Lib.hid ⟨0, rfl⟩⟩
          case round =>
            obtain ⟨i, hi1, hi, rfl, hd⟩ := hrel
            have gr := drewN_grown hd.out none
            by_cases hin : i < N + 1
            · obtain ⟨b, off, rfl, -, ca⟩ := IntsAt.addr (O4.out.ints.1.grown gr) (by omega)
              have ci := ca i hin
              have cj := ca (i - 1) (by omega)
              have LT := List.pairwise_iff_getElem.1 SO.out (i - 1) i (by rw [HK.out]; omega) (by rw [HK.out]; exact hin) (by omega)
              have e1 : L.getD i 0 = L[i]'(by rw [HK.out]; exact hin) := by simp [List.getD_eq_getElem?_getD, List.getElem?_eq_getElem (show i < L.length by rw [HK.out]; exact hin)]
              have e2 : L.getD (i - 1) 0 = L[i - 1]'(by rw [HK.out]; omega) := by simp [List.getD_eq_getElem?_getD, List.getElem?_eq_getElem (show i - 1 < L.length by rw [HK.out]; omega)]
              rw [← e1, ← e2] at LT
              obtain ⟨x, hx⟩ : ∃ x, L.getD i 0 = x := ⟨_, rfl⟩
              obtain ⟨y, hy⟩ : ∃ y, L.getD (i - 1) 0 = y := ⟨_, rfl⟩
              rw [hx] at ci LT
              rw [hy] at cj LT
              have i0 : (0 : Int) ≤ (i : Int) := by omega
              have i1 : (i : Int) < (N : Int) + 1 := by omega
              have i2 : (0 : Int) ≤ (i : Int) - 1 := by omega
              have i3 : (i : Int) - 1 < (N : Int) + 1 := by omega
              have i4 := IntWalk.i64_in ((i : Int) - 1) (by omega)
              have i5 : ((i : Int) - 1).toNat = i - 1 := by omega
              have i6 : ¬ x ≤ y := by omega
              clear ca hx hy e1 e2 LT gr
              go_wp2_with fail
              go_quiet (fail)
              clear i4 i5
              go_wp2
              go_roundw
              case rel => exact ⟨i + 1, by omega, by omega, by go_num, drewN_more hd _⟩
              case measure => simp [intOf]; omega
            · have gG := Lib.hid (grown_trans G4.out gr)
              have cs := blkC (blkK gr D4.out (by simp)) 0 rfl
              have cg := blkC (blkK gr D4.out (by simp)) 1 rfl
              have O5 := Lib.hid (O4.out.ints.1.grown gr)
              clear gr
              go_wp2_with fail
              refine (hasInt_any _ _ _ _ L s O5.out).mono ?_
              rintro e w7 ⟨rfl, rfl⟩
              rw [pb_true MS.out]
              go_wp2_with fail
              go_ret
              exact ⟨rfl, gG.out⟩
end Go.Proofs.YtppkbmlbggokkaaDoor
