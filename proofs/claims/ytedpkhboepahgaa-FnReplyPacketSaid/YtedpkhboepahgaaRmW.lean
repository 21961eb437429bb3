/- The walks of FnReplyMake, FnReplyPacket. -/
import Derived.Test.YtedpkhboepahgaaBlkW
import Derived.WalkKit
import Derived.Lib.Hide
import Derived.Deep.QuietTactic
import Derived.BigQuiet
namespace Go.Proofs.Ytedpkhboepahgaa
open Go.RowKit
set_option maxRecDepth 8000 in
set_option maxHeartbeats 2000000 in
theorem fnReplyMake_walk (ao : Option Addr) (n cap : Nat) (w : World) (h1 : CodeAt w ao n cap) :
    Calls Try.prog 9 #[.slice ao n cap] w fun e w' => e = .returned (.bool true) ∧ w.grownBy w' none := by
  by_cases a : (1048576 : Int) < n
  · go_enter Try.func9, Try.ntmps9
    go_wp2
    go_ret
    exact ⟨rfl, grown_refl _ _⟩
  · go_enter Try.func9, Try.ntmps9
    go_wp2_with fail
    refine (drawReplyMake_any _ _ _ _ h1).mono ?_
    rintro e w1 ⟨s, r, ps, ns, pa, pn, pc, na, nn, nc, rfl, i1, j1, g1⟩
    have I1 := Lib.hid i1
    have J1 := Lib.hid j1
    have G1 := Lib.hid g1
    clear i1 j1 g1
    go_wp2_with fail
    refine (replyMake_any s _ _ _ _ ps _ _ _ ns r I1.out J1.out).mono ?_
    rintro e w2 ⟨ha, hc, ka, kc, M2, rfl, oh, ok, g2, -, -⟩
    obtain ⟨P, hP⟩ : ∃ P, rmR s ps ns r = P := ⟨_, rfl⟩
    rw [hP] at oh ok ⊢
    obtain ⟨⟨F, E, H, T⟩, K⟩ := P
    have HP := Lib.hid hP
    simp only [] at oh ok ⊢
    obtain ⟨hN, hHN⟩ : ∃ N, H.length = N := ⟨_, rfl⟩
    obtain ⟨kN, hKN⟩ : ∃ N, K.length = N := ⟨_, rfl⟩
    rw [hHN] at oh ⊢
    rw [hKN] at ok ⊢
    have HHN := Lib.hid hHN
    have HKN := Lib.hid hKN
    obtain ⟨b, hb⟩ : ∃ b, pb (MkP s ps ns r []) = b := ⟨_, rfl⟩
    rw [hb]
    have HB := Lib.hid hb
    have bb : (b != b) = false := by cases b <;> rfl
    have bb2 : (b == b) = true := by cases b <;> rfl
    have GA := Lib.hid (grown_alloc w2 (.cells #[.int .i64 F, .int .i64 E, .slice ha hN hc, .int .i64 T] 27) none)
    have G2 := Lib.hid (grown_trans G1.out (grown_trans g2 GA.out))
    have I2 := Lib.hid (I1.out.grown (grown_trans g2 GA.out))
    have J2 := Lib.hid (J1.out.grown (grown_trans g2 GA.out))
    have H2 := Lib.hid (OwnI.grown oh GA.out).ints.1
    have K2 := Lib.hid (OwnI.grown ok GA.out).ints.1
    have D2 := Lib.hid (heap_alloc_new w2 (.cells #[.int .i64 F, .int .i64 E, .slice ha hN hc, .int .i64 T] 27))
    have Z2 := Lib.hid (show w.heap.size ≤ w2.heap.size from (grown_trans G1.out g2).size)
    obtain ⟨xb, hxb⟩ : ∃ x, w2.heap.size = x := ⟨_, rfl⟩
    have ZX := Lib.hid (show w.heap.size ≤ xb by rw [← hxb]; exact Z2.out)
    rw [hxb] at D2
    clear oh ok g2 GA hP hHN hKN hb I1 J1 G1 Z2
    go_wp2_with fail
    refine (replyMakeS_any s _ _ _ _ ps _ _ _ ns r I2.out J2.out).mono ?_
    rintro e w3 ⟨ha', hc', ka', kc', M3, rfl, oh, ok, g3, -, -⟩
    rw [HP.out] at oh ok ⊢
    simp only [] at oh ok ⊢
    rw [HHN.out] at oh ⊢
    rw [HKN.out] at ok ⊢
    rw [HB.out]
    clear hxb
    have GA := Lib.hid (grown_alloc w3 (.cells #[.int .i64 F, .int .i64 E, .slice ha' hN hc', .int .i64 T] 27) none)
    have G3 := Lib.hid (grown_trans G2.out (grown_trans g3 GA.out))
    have I3 := Lib.hid (I2.out.grown (grown_trans g3 GA.out))
    have J3 := Lib.hid (J2.out.grown (grown_trans g3 GA.out))
    have H3 := Lib.hid (H2.out.grown (grown_trans g3 GA.out))
    have K3 := Lib.hid (K2.out.grown (grown_trans g3 GA.out))
    have D3 := Lib.hid (blkK (grown_trans g3 GA.out) D2.out (by simp))
    have H3' := Lib.hid (OwnI.grown oh GA.out).ints.1
    have K3' := Lib.hid (OwnI.grown ok GA.out).ints.1
    have D3' := Lib.hid (heap_alloc_new w3 (.cells #[.int .i64 F, .int .i64 E, .slice ha' hN hc', .int .i64 T] 27))
    have d0 := blkC D3.out 0 rfl
    have d1 := blkC D3.out 1 rfl
    have d2 := blkC D3.out 2 rfl
    have d3 := blkC D3.out 3 rfl
    have e0 := blkC D3'.out 0 rfl
    have e1 := blkC D3'.out 1 rfl
    have e2 := blkC D3'.out 2 rfl
    have e3 := blkC D3'.out 3 rfl
    clear oh ok g3 I2 J2 H2 K2 G2 D2 GA
    go_wp2_with fail
    refine (sameBlock_any F E T _ ha hN hc ha' hc' H H3.out H3'.out).mono ?_
    rintro e w4 ⟨rfl, g4⟩
    have G4 := Lib.hid (grown_trans G3.out g4)
    have I4 := Lib.hid (I3.out.grown g4)
    have J4 := Lib.hid (J3.out.grown g4)
    have H4 := Lib.hid (H3.out.grown g4)
    have K4 := Lib.hid (K3.out.grown g4)
    have D4 := Lib.hid (blkK g4 D3.out (by simp))
    have H4' := Lib.hid (H3'.out.grown g4)
    have K4' := Lib.hid (K3'.out.grown g4)
    have D4' := Lib.hid (blkK g4 D3'.out (by simp))
    clear g4 d0 d1 d2 d3 e0 e1 e2 e3 I3 J3 H3 K3 G3 D3 H3' K3' D3'
    go_wp2_with fail
    refine (sameInts_any _ _ _ _ K _ _ _ K K4.out K4'.out).mono ?_
    rintro e w5 ⟨rfl, g5⟩
    rw [pb_true (p := K = K) rfl]
    replace g5 := drewN_grown g5 none
    have G5 := Lib.hid (grown_trans G4.out g5)
    have I5 := Lib.hid (I4.out.grown g5)
    have J5 := Lib.hid (J4.out.grown g5)
    have H5 := Lib.hid (H4.out.grown g5)
    have K5 := Lib.hid (K4.out.grown g5)
    have D5 := Lib.hid (blkK g5 D4.out (by simp))
    have H5' := Lib.hid (H4'.out.grown g5)
    have K5' := Lib.hid (K4'.out.grown g5)
    have D5' := Lib.hid (blkK g5 D4'.out (by simp))
    have d0 := blkC D5.out 0 rfl
    have d1 := blkC D5.out 1 rfl
    have d2 := blkC D5.out 2 rfl
    have d3 := blkC D5.out 3 rfl
    clear g5 I4 J4 H4 K4 G4 D4 H4' K4' D4'
    cases b with
    | false =>
      have e0 := blkC D5'.out 0 rfl
      have e1 := blkC D5'.out 1 rfl
      have e2 := blkC D5'.out 2 rfl
      have e3 := blkC D5'.out 3 rfl
      go_wp2_with fail
      refine (sameBlock_any F E T _ ha hN hc ha' hc' H H5.out H5'.out).mono ?_
      rintro e w6 ⟨rfl, g6⟩
      have G6 := Lib.hid (grown_trans G5.out g6)
      have K6 := Lib.hid (K5.out.grown g6)
      have K6' := Lib.hid (K5'.out.grown g6)
      clear g6 d0 d1 d2 d3 e0 e1 e2 e3
      go_wp2_with fail
      refine (sameInts_any _ _ _ _ K _ _ _ K K6.out K6'.out).mono ?_
      rintro e w7 ⟨rfl, g7⟩
      rw [pb_true (p := K = K) rfl]
      replace g7 := drewN_grown g7 none
      have GG := Lib.hid (grown_trans G6.out g7)
      clear g7
      go_wp2_with fail
      go_ret
      exact ⟨rfl, GG.out⟩
    | true =>
      have M := Lib.hid (pb_iff.1 HB.out)
      have A := Lib.hid (show rmL s ps ns r = ((F, E, H, T), K) by rw [← rmR_yes M.out]; exact HP.out)
      have AF := Lib.hid (show ns.getD 0 0 = F from congrArg (fun q => q.1.1) A.out)
      have AE := Lib.hid (show prodZ s 5 = E from congrArg (fun q => q.1.2.1) A.out)
      have AK := Lib.hid (show keysL s ps = K from congrArg (fun q => q.2) A.out)
      have n1 : 1 ≤ nn := by have := M.out.2.1.2.2; have := M.out.2.2.1; have := I5.out.len; have := J5.out.len; omega
      obtain ⟨nb, noff, rfl, hnb, hnc⟩ := IntsAt.addr J5.out (by omega)
      have nm0 := hnc 0 (by omega)
      rw [Nat.add_zero, AF.out] at nm0
      clear hnc hnb
      go_wp2_with fail
      refine (pathKeys_any s _ _ _ _ ps I5.out).mono ?_
      rintro e w6 ⟨a6, c6, rfl, o6, g6⟩
      rw [keysR_yes M.out.2.1, AK.out, HKN.out] at o6 ⊢
      rw [pb_true M.out.2.1]
      have G6 := Lib.hid (grown_trans G5.out g6)
      have K6 := Lib.hid (K5.out.grown g6)
      have X6 := Lib.hid (OwnI.ints o6).1
      have D6 := Lib.hid (blkK g6 D5.out (by simp))
      have m0 := g6.cell nm0 (by simp)
      clear d0 d1 d2 d3 nm0
      have d0 := blkC D6.out 0 rfl
      have d1 := blkC D6.out 1 rfl
      have i1 : (0 : Int) < nn := by omega
      have i2 : 0 < nn := by omega
      have i3 : ¬ (nn : Int) ≤ 0 := by omega
      clear g6 o6
      go_wp2_with fail
      go_quiet (first | with_reducible exact drawn2 (sameInts_any _ _ _ _ K _ _ _ K (K6.out.grown (grown_drewN _ _ _)) (X6.out.grown (grown_drewN _ _ _))) (congrArg Value.bool (pb_true rfl)) | with_reducible exact quiet1 (publicOf_any s _) (congrArg (Value.int .i64) AE.out))
      go_wp2
      go_ret
      exact ⟨rfl, gDrewN G6.out _⟩
set_option maxRecDepth 8000 in
set_option maxHeartbeats 2000000 in
theorem fnReplyPacket_walk (ao : Option Addr) (n cap : Nat) (bo : Option Addr) (m cap' : Nat) (w : World) (h1 : CodeAt w ao n cap) (_h2 : CodeAt w bo m cap') :
    Calls Try.prog 10 #[.slice ao n cap, .slice bo m cap'] w fun e w' => e = .returned (.bool true) ∧ w.grownBy w' none := by
  by_cases a : (1048576 : Int) < n
  · go_enter Try.func10, Try.ntmps10
    go_wp2
    go_ret
    exact ⟨rfl, grown_refl _ _⟩
  by_cases b : (1048576 : Int) < m
  · go_enter Try.func10, Try.ntmps10
    go_wp2
    go_ret
    exact ⟨rfl, grown_refl _ _⟩
  · go_enter Try.func10, Try.ntmps10
    go_wp2_with fail
    refine (drawReplyMake_any _ _ _ _ h1).mono ?_
    rintro e w1 ⟨s, r, ps, ns, pa, pn, pc, na, nn, nc, rfl, i1, j1, g1⟩
    have I1 := Lib.hid i1
    have J1 := Lib.hid j1
    have G1 := Lib.hid g1
    clear i1 j1 g1
    go_wp2_with fail
    refine (replyMake_any s _ _ _ _ ps _ _ _ ns r I1.out J1.out).mono ?_
    rintro e w2 ⟨ha, hc, ka, kc, M2, rfl, oh, ok, g2, -, -⟩
    obtain ⟨P, hP⟩ : ∃ P, rmR s ps ns r = P := ⟨_, rfl⟩
    rw [hP] at oh ok ⊢
    obtain ⟨⟨F, E, H, T⟩, K⟩ := P
    have HP := Lib.hid hP
    simp only [] at oh ok ⊢
    obtain ⟨hN, hHN⟩ : ∃ N, H.length = N := ⟨_, rfl⟩
    obtain ⟨kN, hKN⟩ : ∃ N, K.length = N := ⟨_, rfl⟩
    rw [hHN] at oh ⊢
    rw [hKN] at ok ⊢
    have HHN := Lib.hid hHN
    have HKN := Lib.hid hKN
    obtain ⟨b, hb⟩ : ∃ b, pb (MkP s ps ns r []) = b := ⟨_, rfl⟩
    rw [hb]
    have HB := Lib.hid hb
    have bb : (b != b) = false := by cases b <;> rfl
    have bb2 : (b == b) = true := by cases b <;> rfl
    have GA := Lib.hid (grown_alloc w2 (.cells #[.int .i64 F, .int .i64 E, .slice ha hN hc, .int .i64 T] 27) none)
    have G2 := Lib.hid (grown_trans G1.out (grown_trans g2 GA.out))
    have I2 := Lib.hid (I1.out.grown (grown_trans g2 GA.out))
    have J2 := Lib.hid (J1.out.grown (grown_trans g2 GA.out))
    have H2 := Lib.hid (OwnI.grown oh GA.out).ints.1
    have K2 := Lib.hid (OwnI.grown ok GA.out).ints.1
    have D2 := Lib.hid (heap_alloc_new w2 (.cells #[.int .i64 F, .int .i64 E, .slice ha hN hc, .int .i64 T] 27))
    have Z2 := Lib.hid (show w.heap.size ≤ w2.heap.size from (grown_trans G1.out g2).size)
    obtain ⟨xb, hxb⟩ : ∃ x, w2.heap.size = x := ⟨_, rfl⟩
    have ZX := Lib.hid (show w.heap.size ≤ xb by rw [← hxb]; exact Z2.out)
    rw [hxb] at D2
    clear oh ok g2 GA hP hHN hKN hb I1 J1 G1 Z2
    go_wp2_with fail
    refine (replyMakeS_any s _ _ _ _ ps _ _ _ ns r I2.out J2.out).mono ?_
    rintro e w3 ⟨ha', hc', ka', kc', M3, rfl, oh, ok, g3, -, -⟩
    rw [HP.out] at oh ok ⊢
    simp only [] at oh ok ⊢
    rw [HHN.out] at oh ⊢
    rw [HKN.out] at ok ⊢
    rw [HB.out]
    clear hxb
    have GA := Lib.hid (grown_alloc w3 (.cells #[.int .i64 F, .int .i64 E, .slice ha' hN hc', .int .i64 T] 27) none)
    have G3 := Lib.hid (grown_trans G2.out (grown_trans g3 GA.out))
    have I3 := Lib.hid (I2.out.grown (grown_trans g3 GA.out))
    have J3 := Lib.hid (J2.out.grown (grown_trans g3 GA.out))
    have H3 := Lib.hid (H2.out.grown (grown_trans g3 GA.out))
    have K3 := Lib.hid (K2.out.grown (grown_trans g3 GA.out))
    have D3 := Lib.hid (blkK (grown_trans g3 GA.out) D2.out (by simp))
    have H3' := Lib.hid (OwnI.grown oh GA.out).ints.1
    have K3' := Lib.hid (OwnI.grown ok GA.out).ints.1
    have D3' := Lib.hid (heap_alloc_new w3 (.cells #[.int .i64 F, .int .i64 E, .slice ha' hN hc', .int .i64 T] 27))
    have d0 := blkC D3.out 0 rfl
    have d1 := blkC D3.out 1 rfl
    have d2 := blkC D3.out 2 rfl
    have d3 := blkC D3.out 3 rfl
    have e0 := blkC D3'.out 0 rfl
    have e1 := blkC D3'.out 1 rfl
    have e2 := blkC D3'.out 2 rfl
    have e3 := blkC D3'.out 3 rfl
    clear oh ok g3 I2 J2 H2 K2 G2 D2 GA
    go_wp2_with fail
    refine (sameBlock_any F E T _ ha hN hc ha' hc' H H3.out H3'.out).mono ?_
    rintro e w4 ⟨rfl, g4⟩
    have G4 := Lib.hid (grown_trans G3.out g4)
    have I4 := Lib.hid (I3.out.grown g4)
    have J4 := Lib.hid (J3.out.grown g4)
    have H4 := Lib.hid (H3.out.grown g4)
    have K4 := Lib.hid (K3.out.grown g4)
    have D4 := Lib.hid (blkK g4 D3.out (by simp))
    have H4' := Lib.hid (H3'.out.grown g4)
    have K4' := Lib.hid (K3'.out.grown g4)
    have D4' := Lib.hid (blkK g4 D3'.out (by simp))
    clear g4 d0 d1 d2 d3 e0 e1 e2 e3 I3 J3 H3 K3 G3 D3 H3' K3' D3'
    go_wp2_with fail
    refine (sameInts_any _ _ _ _ K _ _ _ K K4.out K4'.out).mono ?_
    rintro e w5 ⟨rfl, g5⟩
    rw [pb_true (p := K = K) rfl]
    replace g5 := drewN_grown g5 none
    have G5 := Lib.hid (grown_trans G4.out g5)
    have I5 := Lib.hid (I4.out.grown g5)
    have J5 := Lib.hid (J4.out.grown g5)
    have H5 := Lib.hid (H4.out.grown g5)
    have K5 := Lib.hid (K4.out.grown g5)
    have D5 := Lib.hid (blkK g5 D4.out (by simp))
    have H5' := Lib.hid (H4'.out.grown g5)
    have K5' := Lib.hid (K4'.out.grown g5)
    have D5' := Lib.hid (blkK g5 D4'.out (by simp))
    have d0 := blkC D5.out 0 rfl
    have d1 := blkC D5.out 1 rfl
    have d2 := blkC D5.out 2 rfl
    have d3 := blkC D5.out 3 rfl
    clear g5 I4 J4 H4 K4 G4 D4 H4' K4' D4'
    cases b with
    | false =>
      have e0 := blkC D5'.out 0 rfl
      have e1 := blkC D5'.out 1 rfl
      have e2 := blkC D5'.out 2 rfl
      have e3 := blkC D5'.out 3 rfl
      go_wp2_with fail
      refine (sameBlock_any F E T _ ha hN hc ha' hc' H H5.out H5'.out).mono ?_
      rintro e w6 ⟨rfl, g6⟩
      have G6 := Lib.hid (grown_trans G5.out g6)
      have K6 := Lib.hid (K5.out.grown g6)
      have K6' := Lib.hid (K5'.out.grown g6)
      clear g6 d0 d1 d2 d3 e0 e1 e2 e3
      go_wp2_with fail
      refine (sameInts_any _ _ _ _ K _ _ _ K K6.out K6'.out).mono ?_
      rintro e w7 ⟨rfl, g7⟩
      rw [pb_true (p := K = K) rfl]
      replace g7 := drewN_grown g7 none
      have GG := Lib.hid (grown_trans G6.out g7)
      clear g7
      go_wp2_with fail
      go_ret
      exact ⟨rfl, GG.out⟩
    | true =>
      have M := Lib.hid (pb_iff.1 HB.out)
      have A := Lib.hid (show rmL s ps ns r = ((F, E, H, T), K) by rw [← rmR_yes M.out]; exact HP.out)
      obtain ⟨k, hk⟩ : ∃ k, m % 900 = k := ⟨_, rfl⟩
      have hk9 : k < 900 := by omega
      have hkz : (m : Int) % 900 = (k : Int) := by omega
      have hkt : (m : Int).tmod 900 = (k : Int) := by rw [Int.tmod_eq_emod_of_nonneg (by omega)]; exact hkz
      have PP := Lib.hid (pack_one (z := (k : Int)) (by omega))
      have MK := Lib.hid (show MkP s ps ns r [(k : Int)] from ⟨PP.out, M.out.2⟩)
      have BE := Lib.hid (show (mkL s ps ns r [(k : Int)]).1 = E from congrArg (fun q => q.1.2.1) A.out)
      have BH := Lib.hid (show (mkL s ps ns r [(k : Int)]).2.1 = H from congrArg (fun q => q.1.2.2.1) A.out)
      have BT := Lib.hid (show (mkL s ps ns r [(k : Int)]).2.2.1 = T from congrArg (fun q => q.1.2.2.2) A.out)
      have L5 := Lib.hid (one_int w5 (k : Int))
      have I6 := Lib.hid (I5.out.grown (grown_alloc w5 (.cells #[.int .i64 (k : Int)] 3) none))
      have J6 := Lib.hid (J5.out.grown (grown_alloc w5 (.cells #[.int .i64 (k : Int)] 3) none))
      clear hk
      go_wp2_with fail
      refine (packetMake_any s _ _ _ _ ps _ _ _ ns r _ _ _ [(k : Int)] I6.out J6.out L5.out).mono ?_
      rintro e w6 ⟨xa, xc, ya, yc, rfl, ox, oy, g6⟩
      rw [mkR_yes MK.out] at ox oy ⊢
      rw [pb_true MK.out, BE.out, BT.out]
      rw [BH.out, HHN.out] at ox ⊢
      obtain ⟨yN, hyN⟩ : ∃ N, (mkL s ps ns r [(k : Int)]).2.2.2.length = N := ⟨_, rfl⟩
      rw [hyN]
      have GA := Lib.hid (grown_trans (grown_alloc w5 (.cells #[.int .i64 (k : Int)] 3) none) (gAlloc g6 (.cells #[.int .i64 E, .slice xa hN xc, .int .i64 T, .slice ya yN yc] 35)))
      have G6 := Lib.hid (grown_trans G5.out GA.out)
      have H6 := Lib.hid (H5.out.grown GA.out)
      have X6 := Lib.hid (OwnI.grown ox (grown_alloc w6 (.cells #[.int .i64 E, .slice xa hN xc, .int .i64 T, .slice ya yN yc] 35) none)).ints.1
      have D6 := Lib.hid (blkK GA.out D5.out (by simp))
      have D6' := Lib.hid (heap_alloc_new w6 (.cells #[.int .i64 E, .slice xa hN xc, .int .i64 T, .slice ya yN yc] 35))
      clear d0 d1 d2 d3 ox oy g6 hyN GA
      have d1 := blkC D6.out 1 rfl
      have d2 := blkC D6.out 2 rfl
      have d3 := blkC D6.out 3 rfl
      have e0 := blkC D6'.out 0 rfl
      have e1 := blkC D6'.out 1 rfl
      have e2 := blkC D6'.out 2 rfl
      go_wp2_with fail
      refine (sameInts_any _ _ _ _ H _ _ _ H X6.out H6.out).mono ?_
      rintro e w7 ⟨rfl, g7⟩
      rw [pb_true (p := H = H) rfl]
      replace g7 := drewN_grown g7 none
      have GG := Lib.hid (grown_trans G6.out g7)
      clear g7
      go_wp2_with fail
      go_ret
      exact ⟨rfl, GG.out⟩
end Go.Proofs.Ytedpkhboepahgaa
