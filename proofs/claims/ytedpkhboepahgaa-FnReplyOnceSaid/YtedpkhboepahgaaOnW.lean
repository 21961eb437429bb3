/- The walk of FnReplyOnce. -/
import Derived.Test.YtedpkhboepahgaaBlkW
import Derived.Test.YtedpkhboepahgaaWayW
import Derived.Test.YtedpkhboepahgaaMx4
import Derived.WalkKit
import Derived.Lib.Hide
import Derived.Deep.QuietTactic
import Derived.BigQuiet
import Derived.OwnWalk
namespace Go.Proofs.Ytedpkhboepahgaa
open Go.RowKit
theorem vb_ok {E1 T1 : Int} {H1 l : List Int} (hE : 1 ≤ E1 ∧ E1 ≤ 996) (hH : ListP H1 ∧ H1.length = 9) (hT : 0 ≤ T1 ∧ T1 ≤ 990) (hl : PackP l) : vB E1 H1 T1 (packL l) = true :=
  vB_iff.2 ⟨hE, hH, ⟨packL_list hl, packL_len hl.2⟩, hT⟩
theorem fb_ok {F1 E1 T1 : Int} {H1 l : List Int} (hF : 0 ≤ F1 ∧ F1 ≤ 7) (hE : 1 ≤ E1 ∧ E1 ≤ 996) (hH : ListP H1 ∧ H1.length = 9) (hT : 0 ≤ T1 ∧ T1 ≤ 990) (hl : PackP l) : fillB F1 E1 H1 T1 l = true := by
  unfold fillB
  rw [pb_true hl, nmB_iff.2 hF, packR_yes hl, vb_ok hE hH hT hl]
  rfl
set_option maxRecDepth 16000 in
set_option maxHeartbeats 4000000 in
theorem fnReplyOnce_walk (ao : Option Addr) (n cap : Nat) (bo : Option Addr) (m cap' : Nat) (w : World) (h1 : CodeAt w ao n cap) (_h2 : CodeAt w bo m cap') :
    Calls Try.prog 4 #[.slice ao n cap, .slice bo m cap'] w fun e w' => e = .returned (.bool true) ∧ w.grownBy w' none := by
  by_cases a : (1048576 : Int) < n
  · go_enter Try.func4, Try.ntmps4
    go_wp2
    go_ret
    exact ⟨rfl, grown_refl _ _⟩
  by_cases b : (1048576 : Int) < m
  · go_enter Try.func4, Try.ntmps4
    go_wp2
    go_ret
    exact ⟨rfl, grown_refl _ _⟩
  · go_enter Try.func4, Try.ntmps4
    go_wp2_with fail
    refine (drawReplyMake_any _ _ _ _ h1).mono ?_
    rintro e w1 ⟨s, r, ps, ns, pa, pn, pc, na, nn, nc, rfl, i1, j1, g1⟩
    have I1 := Lib.hid i1
    have J1 := Lib.hid j1
    have G1 := Lib.hid g1
    clear i1 j1 g1
    go_wp2_with fail
    refine (replyMake_any s _ _ _ _ ps _ _ _ ns r I1.out J1.out).mono ?_
    rintro e w2 ⟨ha, hc, ka, kc, M2, rfl, oh, ok, g2, -, -⟩
    obtain ⟨P, hP⟩ : ∃ P, rmR s ps ns r = P := ⟨_, rfl⟩
    rw [hP] at oh ok ⊢
    obtain ⟨⟨F, E, H, T⟩, K⟩ := P
    have HP := Lib.hid hP
    simp only [] at oh ok ⊢
    obtain ⟨hN, hHN⟩ : ∃ N, H.length = N := ⟨_, rfl⟩
    obtain ⟨kN, hKN⟩ : ∃ N, K.length = N := ⟨_, rfl⟩
    rw [hHN] at oh ⊢
    rw [hKN] at ok ⊢
    have HHN := Lib.hid hHN
    have HKN := Lib.hid hKN
    obtain ⟨b, hb⟩ : ∃ b, pb (MkP s ps ns r []) = b := ⟨_, rfl⟩
    rw [hb]
    have HB := Lib.hid hb
    have bb : (b != b) = false := by cases b <;> rfl
    have bb2 : (b == b) = true := by cases b <;> rfl
    have GA := Lib.hid (grown_alloc w2 (.cells #[.int .i64 F, .int .i64 E, .slice ha hN hc, .int .i64 T] 27) none)
    have G2 := Lib.hid (grown_trans G1.out (grown_trans g2 GA.out))
    have I2 := Lib.hid (I1.out.grown (grown_trans g2 GA.out))
    have J2 := Lib.hid (J1.out.grown (grown_trans g2 GA.out))
    have H2 := Lib.hid (OwnI.grown oh GA.out).ints.1
    have K2 := Lib.hid (OwnI.grown ok GA.out).ints.1
    have D2 := Lib.hid (heap_alloc_new w2 (.cells #[.int .i64 F, .int .i64 E, .slice ha hN hc, .int .i64 T] 27))
    have Z2 := Lib.hid (show w.heap.size ≤ w2.heap.size from (grown_trans G1.out g2).size)
    obtain ⟨xb, hxb⟩ : ∃ x, w2.heap.size = x := ⟨_, rfl⟩
    have ZX := Lib.hid (show w.heap.size ≤ xb by rw [← hxb]; exact Z2.out)
    rw [hxb] at D2
    clear oh ok g2 GA hP hHN hKN hb I1 J1 G1 Z2
    go_wp2_with fail
    refine (replyMakeS_any s _ _ _ _ ps _ _ _ ns r I2.out J2.out).mono ?_
    rintro e w3 ⟨ha', hc', ka', kc', M3, rfl, oh, ok, g3, -, -⟩
    rw [HP.out] at oh ok ⊢
    simp only [] at oh ok ⊢
    rw [HHN.out] at oh ⊢
    rw [HKN.out] at ok ⊢
    rw [HB.out]
    clear hxb
    have GA := Lib.hid (grown_alloc w3 (.cells #[.int .i64 F, .int .i64 E, .slice ha' hN hc', .int .i64 T] 27) none)
    have G3 := Lib.hid (grown_trans G2.out (grown_trans g3 GA.out))
    have I3 := Lib.hid (I2.out.grown (grown_trans g3 GA.out))
    have J3 := Lib.hid (J2.out.grown (grown_trans g3 GA.out))
    have H3 := Lib.hid (H2.out.grown (grown_trans g3 GA.out))
    have K3 := Lib.hid (K2.out.grown (grown_trans g3 GA.out))
    have D3 := Lib.hid (blkK (grown_trans g3 GA.out) D2.out (by simp))
    have H3' := Lib.hid (OwnI.grown oh GA.out).ints.1
    have K3' := Lib.hid (OwnI.grown ok GA.out).ints.1
    have D3' := Lib.hid (heap_alloc_new w3 (.cells #[.int .i64 F, .int .i64 E, .slice ha' hN hc', .int .i64 T] 27))
    have d0 := blkC D3.out 0 rfl
    have d1 := blkC D3.out 1 rfl
    have d2 := blkC D3.out 2 rfl
    have d3 := blkC D3.out 3 rfl
    have e0 := blkC D3'.out 0 rfl
    have e1 := blkC D3'.out 1 rfl
    have e2 := blkC D3'.out 2 rfl
    have e3 := blkC D3'.out 3 rfl
    clear oh ok g3 I2 J2 H2 K2 G2 D2 GA
    go_wp2_with fail
    refine (sameBlock_any F E T _ ha hN hc ha' hc' H H3.out H3'.out).mono ?_
    rintro e w4 ⟨rfl, g4⟩
    have G4 := Lib.hid (grown_trans G3.out g4)
    have I4 := Lib.hid (I3.out.grown g4)
    have J4 := Lib.hid (J3.out.grown g4)
    have H4 := Lib.hid (H3.out.grown g4)
    have K4 := Lib.hid (K3.out.grown g4)
    have D4 := Lib.hid (blkK g4 D3.out (by simp))
    have H4' := Lib.hid (H3'.out.grown g4)
    have K4' := Lib.hid (K3'.out.grown g4)
    have D4' := Lib.hid (blkK g4 D3'.out (by simp))
    clear g4 d0 d1 d2 d3 e0 e1 e2 e3 I3 J3 H3 K3 G3 D3 H3' K3' D3'
    go_wp2_with fail
    refine (sameInts_any _ _ _ _ K _ _ _ K K4.out K4'.out).mono ?_
    rintro e w5 ⟨rfl, g5⟩
    rw [pb_true (p := K = K) rfl]
    replace g5 := drewN_grown g5 none
    have G5 := Lib.hid (grown_trans G4.out g5)
    have I5 := Lib.hid (I4.out.grown g5)
    have J5 := Lib.hid (J4.out.grown g5)
    have H5 := Lib.hid (H4.out.grown g5)
    have K5 := Lib.hid (K4.out.grown g5)
    have D5 := Lib.hid (blkK g5 D4.out (by simp))
    have H5' := Lib.hid (H4'.out.grown g5)
    have K5' := Lib.hid (K4'.out.grown g5)
    have D5' := Lib.hid (blkK g5 D4'.out (by simp))
    have d0 := blkC D5.out 0 rfl
    have d1 := blkC D5.out 1 rfl
    have d2 := blkC D5.out 2 rfl
    have d3 := blkC D5.out 3 rfl
    clear g5 I4 J4 H4 K4 G4 D4 H4' K4' D4'
    cases b with
    | false =>
      have e0 := blkC D5'.out 0 rfl
      have e1 := blkC D5'.out 1 rfl
      have e2 := blkC D5'.out 2 rfl
      have e3 := blkC D5'.out 3 rfl
      go_wp2_with fail
      refine (sameBlock_any F E T _ ha hN hc ha' hc' H H5.out H5'.out).mono ?_
      rintro e w6 ⟨rfl, g6⟩
      have G6 := Lib.hid (grown_trans G5.out g6)
      have K6 := Lib.hid (K5.out.grown g6)
      have K6' := Lib.hid (K5'.out.grown g6)
      clear g6 d0 d1 d2 d3 e0 e1 e2 e3
      go_wp2_with fail
      refine (sameInts_any _ _ _ _ K _ _ _ K K6.out K6'.out).mono ?_
      rintro e w7 ⟨rfl, g7⟩
      rw [pb_true (p := K = K) rfl]
      replace g7 := drewN_grown g7 none
      have GG := Lib.hid (grown_trans G6.out g7)
      clear g7
      go_wp2_with fail
      go_ret
      exact ⟨rfl, GG.out⟩
    | true =>
      have M := Lib.hid (pb_iff.1 HB.out)
      have n13 : 1 ≤ nn ∧ nn ≤ 3 := by have := M.out.2.1.2.2; have := M.out.2.2.1; have := I5.out.len; have := J5.out.len; omega
      have NL := Lib.hid J5.out.len
      clear H5 K5 H5' K5' D5 D5' HHN HKN HP d0 d1 d2 d3
      go_wp2_with fail
      refine (secrets_any m nn _ (by omega) (by omega)).mono ?_
      rintro q w6 ⟨sa, sc, sb, sd, rfl, a6, b6, g6⟩
      have G6 := Lib.hid (grown_trans G5.out g6)
      have J6 := Lib.hid (J5.out.grown g6)
      have A6 := Lib.hid a6
      have B6 := Lib.hid b6
      clear g6 a6 b6 I5 J5 G5
      have MB := Lib.hid (show MkP s (seB m nn) ns r [] from ⟨pack_nil, ⟨M.out.2.1.1, seB_els m nn, by rw [seB_len]; omega, by rw [seB_len]; omega⟩, by rw [seB_len]; exact NL.out, M.out.2.2.2⟩)
      obtain ⟨BP, hBP⟩ : ∃ x, seB m nn = x := ⟨_, rfl⟩
      have HBP := Lib.hid hBP
      rw [hBP] at B6 MB
      go_wp2_with fail
      refine (replyMake_any s _ _ _ _ BP _ _ _ ns r B6.out J6.out).mono ?_
      rintro q w7 ⟨ha, hc, ka, kc, M2, rfl, oh, ok, g7, -, -⟩
      rw [rmR_yes MB.out] at oh ok ⊢
      rw [pb_true MB.out]
      unfold rmL at oh ok ⊢
      simp only [] at oh ok ⊢
      have KP := Lib.hid (mkP_ok MB.out)
      obtain ⟨ks, hks⟩ : ∃ x, keysL s BP = x := ⟨_, rfl⟩
      have HKS := Lib.hid hks
      rw [hks] at oh ok KP ⊢
      have HOK := hdrL_ok KP.out.1 M.out.2.2.2.1 KP.out.2 M.out.2.2.2.2
      have LK := Lib.hid (show ks.length = nn by have := KP.out.2; have := NL.out; omega)
      rw [HOK.2] at oh ⊢
      rw [LK.out] at ok ⊢
      obtain ⟨F1, hF1⟩ : ∃ x, ns.getD 0 0 = x := ⟨_, rfl⟩
      obtain ⟨E1, hE1⟩ : ∃ x, prodZ s 5 = x := ⟨_, rfl⟩
      obtain ⟨H1, hH1⟩ : ∃ x, hdrL ks ns r = x := ⟨_, rfl⟩
      rw [hH1] at oh HOK ⊢
      obtain ⟨T1, hT1⟩ : ∃ x, tagL (ks.getD 0 0) H1 = x := ⟨_, rfl⟩
      rw [hF1, hE1, hT1]
      have HF1 := Lib.hid hF1
      have HE1 := Lib.hid hE1
      have HH1 := Lib.hid hH1
      have HT1 := Lib.hid hT1
      have OK1 := Lib.hid HOK
      clear hF1 hE1 hH1 hT1 HOK hks hBP
      have ga := grown_alloc w7 (.cells #[.int .i64 F1, .int .i64 E1, .slice ha 9 hc, .int .i64 T1] 27) none
      have G7 := Lib.hid (grown_trans G6.out (grown_trans g7 ga))
      have A7 := Lib.hid (A6.out.grown (grown_trans g7 ga))
      have H7 := Lib.hid (OwnI.grown oh ga).ints.1
      have D7 := Lib.hid (heap_alloc_new w7 (.cells #[.int .i64 F1, .int .i64 E1, .slice ha 9 hc, .int .i64 T1] 27))
      have PL1 := Lib.hid (pack_one (z := 1) (by omega))
      have PL2 := Lib.hid (pack_two (y := 2) (z := 3) (by omega) (by omega))
      have NMF := Lib.hid (show 0 ≤ F1 ∧ F1 ≤ 7 by rw [← HF1.out]; exact M.out.2.2.2.1 0 (by have := NL.out; omega))
      have EL1 := Lib.hid (show 1 ≤ E1 ∧ E1 ≤ 996 by rw [← HE1.out]; exact prod_el M.out.2.1.1 (by omega))
      have TR1 := Lib.hid (show 0 ≤ T1 ∧ T1 ≤ 990 by rw [← HT1.out]; exact tagL_range _ _)
      have FB1 := Lib.hid (fb_ok NMF.out EL1.out OK1.out TR1.out PL1.out)
      have FB2 := Lib.hid (fb_ok NMF.out EL1.out OK1.out TR1.out PL2.out)
      have VB1 := Lib.hid (vb_ok EL1.out OK1.out TR1.out PL1.out)
      have VB2 := Lib.hid (vb_ok EL1.out OK1.out TR1.out PL2.out)
      obtain ⟨xk, hxk⟩ : ∃ x, w7.heap.size = x := ⟨_, rfl⟩
      have LT1 := Lib.hid (one_int_at (w7.alloc (.cells #[.int .i64 F1, .int .i64 E1, .slice ha 9 hc, .int .i64 T1] 27)) 1 (xk + 1) (by simp [hxk]))
      have gl := grown_alloc (w7.alloc (.cells #[.int .i64 F1, .int .i64 E1, .slice ha 9 hc, .int .i64 T1] 27)) (.cells #[.int .i64 1] 3) none
      have H8 := Lib.hid (H7.out.grown gl)
      rw [hxk] at D7
      have D8 := Lib.hid (blkK gl D7.out (by simp))
      have d0 := blkC D8.out 0 rfl
      have d1 := blkC D8.out 1 rfl
      have d2 := blkC D8.out 2 rfl
      have d3 := blkC D8.out 3 rfl
      have G8 := Lib.hid (grown_trans G7.out gl)
      have A8 := Lib.hid (A7.out.grown gl)
      clear ga g7 oh ok A6 B6 J6 G6 gl A7 G7 H7 D7
      go_wp2_with fail
      clear hxk
      refine (replyFill_any F1 E1 T1 _ ha 9 hc _ 1 1 H1 [1] H8.out LT1.out (by omega)).mono ?_
      rintro q w8 ⟨xa, xc, ya, yc, rfl, ox, oy, g8⟩
      rw [fillR_yes FB1.out] at ox oy ⊢
      rw [FB1.out]
      simp only [] at ox oy ⊢
      rw [packR_yes PL1.out] at oy ⊢
      rw [OK1.out.2] at ox ⊢
      rw [packL_len PL1.out.2] at oy ⊢
      have ga := grown_alloc w8 (.cells #[.int .i64 E1, .slice xa 9 xc, .int .i64 T1, .slice ya 6 yc] 35) none
      have gl := grown_alloc (w8.alloc (.cells #[.int .i64 E1, .slice xa 9 xc, .int .i64 T1, .slice ya 6 yc] 35)) (.cells #[.int .i64 2, .int .i64 3] 3) none
      have gt := grown_trans g8 (grown_trans ga gl)
      have G9 := Lib.hid (grown_trans G8.out gt)
      have A9 := Lib.hid (A8.out.grown gt)
      have H9 := Lib.hid (H8.out.grown gt)
      have D9 := Lib.hid (blkK (grown_trans g8 ga) D8.out (by simp))
      have X9 := Lib.hid (OwnI.grown ox (grown_trans ga gl)).ints.1
      have Y9 := Lib.hid (OwnI.grown oy (grown_trans ga gl)).ints.1
      have DP9 := Lib.hid (blkA (o' := .cells #[.int .i64 2, .int .i64 3] 3) (heap_alloc_new w8 (.cells #[.int .i64 E1, .slice xa 9 xc, .int .i64 T1, .slice ya 6 yc] 35)))
      obtain ⟨xp, hxp⟩ : ∃ x, w8.heap.size = x := ⟨_, rfl⟩
      have LT2 := Lib.hid (own2_at (w := w8.alloc (.cells #[.int .i64 E1, .slice xa 9 xc, .int .i64 T1, .slice ya 6 yc] 35)) (N := xp + 1) 2 3 (by simp [hxp]))
      rw [hxp] at DP9
      clear g8 ga gl gt ox oy d0 d1 d2 d3 G8 A8 H8 D8
      have d0 := blkC D9.out 0 rfl
      have d1 := blkC D9.out 1 rfl
      have d2 := blkC D9.out 2 rfl
      have d3 := blkC D9.out 3 rfl
      go_wp2_with fail
      clear hxp
      refine (replyFill_any F1 E1 T1 _ ha 9 hc _ 2 2 H1 [2, 3] H9.out LT2.out (by omega)).mono ?_
      rintro q w10 ⟨za, zc, va, vc, rfl, ox, oy, g10⟩
      rw [fillR_yes FB2.out] at ox oy ⊢
      rw [FB2.out]
      simp only [] at ox oy ⊢
      rw [packR_yes PL2.out] at oy ⊢
      rw [OK1.out.2] at ox ⊢
      rw [packL_len PL2.out.2] at oy ⊢
      have ga := grown_alloc w10 (.cells #[.int .i64 E1, .slice za 9 zc, .int .i64 T1, .slice va 6 vc] 35) none
      have gt := grown_trans g10 ga
      have G11 := Lib.hid (grown_trans G9.out gt)
      have A11 := Lib.hid (A9.out.grown gt)
      have X11 := Lib.hid (X9.out.grown gt)
      have Y11 := Lib.hid (Y9.out.grown gt)
      have Z11 := Lib.hid (OwnI.grown ox ga).ints.1
      have V11 := Lib.hid (OwnI.grown oy ga).ints.1
      have DP11 := Lib.hid (blkK gt DP9.out (by simp))
      have DQ11 := Lib.hid (heap_alloc_new w10 (.cells #[.int .i64 E1, .slice za 9 zc, .int .i64 T1, .slice va 6 vc] 35))
      obtain ⟨xq, hxq⟩ : ∃ x, w10.heap.size = x := ⟨_, rfl⟩
      rw [hxq] at DQ11
      clear g10 ga gt ox oy d0 d1 d2 d3 G9 A9 H9 D9 X9 Y9 DP9
      have a0r := seA_el (m := m) (show 0 < nn by omega)
      have b0 := seB_at (m := m) (show 0 < nn by omega)
      obtain ⟨ab, aoff, rfl, -, hac⟩ := IntsAt.addr A11.out (by omega)
      have ca := hac 0 (by omega)
      rw [Nat.add_zero] at ca
      obtain ⟨a0, ha0⟩ : ∃ x, (seA m nn).getD 0 0 = x := ⟨_, rfl⟩
      rw [ha0] at ca a0r b0
      rw [HBP.out] at b0
      have AR := Lib.hid a0r
      have els : ElsP BP := by rw [← HBP.out]; exact seB_els m nn
      have bln : BP.length = nn := by rw [← HBP.out, seB_len]
      have KS := Lib.hid (show prodZ a0 E1 = ks.getD 0 0 by rw [← HE1.out, ← HKS.out]; exact elL_share (i := 0) M.out.2.1.1 els a0r (by omega) b0)
      obtain ⟨P, hP⟩ : ∃ x, offL (H1 ++ [0, 0, 0]) (prodZ a0 E1) = x := ⟨_, rfl⟩
      have PP := Lib.hid hP
      have HH1' := Lib.hid (show hdrI ks ns r 0 = H1 from HH1.out)
      have PO := Lib.hid (peel_ok KP.out.1 M.out.2.2.2.1 KP.out.2 M.out.2.2.2.2 (i := 0) (P := P) (by have := LK.out; omega) (by rw [HH1'.out, ← KS.out]; exact hP))
      have TT := Lib.hid (show T1 = tagL (prodZ a0 E1) H1 by rw [KS.out]; exact HT1.out.symm)
      have PLst := Lib.hid (show ListP P ∧ P.length = 12 by rw [← hP]; exact ⟨offL_list (by have := OK1.out.2; simp; omega) _, by rw [offL_len]; have := OK1.out.2; simp; omega⟩)
      have i1 : (0 : Int) < nn := by omega
      have i2 : 0 < nn := by omega
      have i3 : ¬ (nn : Int) ≤ 0 := by omega
      clear hac ha0 a0r b0 els bln hP A11
      go_wp2_with fail
      clear hxq
      refine (mixNew_any a0 _ AR.out).mono ?_
      rintro q w12 ⟨rfl, g12⟩
      have ga := grown_alloc w12 (.cells #[.int .i64 a0, .slice none 0 0, .slice none 0 0] 47) none
      have gt := grown_trans g12 ga
      have G13 := Lib.hid (grown_trans G11.out gt)
      have X13 := Lib.hid (X11.out.grown gt)
      have Y13 := Lib.hid (Y11.out.grown gt)
      have Z13 := Lib.hid (Z11.out.grown gt)
      have V13 := Lib.hid (V11.out.grown gt)
      have DP13 := Lib.hid (blkK gt DP11.out (by simp))
      have DQ13 := Lib.hid (blkK gt DQ11.out (by simp))
      have DM13 := Lib.hid (heap_alloc_new w12 (.cells #[.int .i64 a0, .slice none 0 0, .slice none 0 0] 47))
      obtain ⟨xm, hxm⟩ : ∃ x, w12.heap.size = x := ⟨_, rfl⟩
      rw [hxm] at DM13
      clear g12 ga gt ca G11 X11 Y11 Z11 V11 DP11 DQ11
      have d0 := blkC DM13.out 0 rfl
      have d1 := blkC DM13.out 1 rfl
      have d2 := blkC DM13.out 2 rfl
      have e0 := blkC DP13.out 0 rfl
      have e1 := blkC DP13.out 1 rfl
      have e2 := blkC DP13.out 2 rfl
      have e3 := blkC DP13.out 3 rfl
      go_wp2_with fail
      clear hxm
      refine (mixTake0 a0 E1 T1 _ xa xc ya yc H1 (packL [1]) P X13.out Y13.out AR.out VB1.out TT.out PP.out PO.out.1 PO.out.2.1).mono ?_
      rintro q w14 ⟨sa', sc', pb, pc, ta, tc, ua, uc, rfl, hS, hO, hX, hY, g14⟩
      have ga := grown_alloc w14 (.cells #[.int .i64 a0, .slice sa' 1 sc', .slice (some ⟨pb, 0, none⟩) 1 pc] 47) none
      have gt := grown_trans g14 ga
      have G15 := Lib.hid (grown_trans G13.out gt)
      have Z15 := Lib.hid (Z13.out.grown gt)
      have V15 := Lib.hid (V13.out.grown gt)
      have S15 := Lib.hid (hS.grown ga)
      have O15 := Lib.hid (hO.grown ga)
      have X15 := Lib.hid (hX.grown ga)
      have Y15 := Lib.hid (hY.grown ga)
      have DQ15 := Lib.hid (blkK gt DQ13.out (by simp))
      have DM15 := Lib.hid (heap_alloc_new w14 (.cells #[.int .i64 a0, .slice sa' 1 sc', .slice (some ⟨pb, 0, none⟩) 1 pc] 47))
      obtain ⟨xn, hxn⟩ : ∃ x, w14.heap.size = x := ⟨_, rfl⟩
      rw [hxn] at DM15
      clear d0 d1 d2 e0 e1 e2 e3 g14 ga gt hS hO hX hY G13 X13 Y13 Z13 V13 DP13 DQ13 DM13
      have PL6 : (packL [1]).length = 6 := packL_len PL1.out.2
      have KV := Lib.hid (show vB (prodZ E1 (factZ (prodZ a0 E1))) (P.drop 3) (P.getD 2 0) (offL (packL [1]) (prodZ a0 E1)) = true from vB_iff.2 ⟨prod_el EL1.out (fact_el _), ⟨list_drop PLst.out.1 3, by have := PLst.out.2; simp; omega⟩, ⟨offL_list (by omega) _, by rw [offL_len]; exact PL6⟩, PLst.out.1.2 2 (by have := PLst.out.2; omega)⟩)
      clear PL6
      have d0 := blkC DM15.out 0 rfl
      have d1 := blkC DM15.out 1 rfl
      have d2 := blkC DM15.out 2 rfl
      have e0 := blkC DQ15.out 0 rfl
      have e1 := blkC DQ15.out 1 rfl
      have e2 := blkC DQ15.out 2 rfl
      have e3 := blkC DQ15.out 3 rfl
      go_wp2_with fail
      clear hxn
      refine (mixTake1 a0 E1 T1 _ za zc va vc H1 (packL [2, 3]) P Z15.out V15.out AR.out VB2.out TT.out PP.out PO.out.1 PO.out.2.1 _ _ _ _ sa' sc' pb pc ta tc ua uc (P.drop 3) (offL (packL [1]) (prodZ a0 E1)) S15.out O15.out X15.out Y15.out PO.out.1 PO.out.2.1 KV.out).mono ?_
      rintro q w16 ⟨ra, rc, rg, rd, rfl, g16⟩
      have GG := Lib.hid (gAlloc (grown_trans G15.out g16) (.cells #[.int .i64 a0, .slice ra 1 rc, .slice (some ⟨rg, 0, none⟩) 1 rd] 47))
      clear d0 d1 d2 e0 e1 e2 e3 g16
      go_wp2_with fail
      go_ret
      exact ⟨rfl, GG.out⟩
end Go.Proofs.Ytedpkhboepahgaa
