/- The walk of FnReplyWay. -/
import Derived.Test.YtedpkhboepahgaaBlkW
import Derived.Test.YtedpkhboepahgaaPeel
import Derived.Test.YtedpkhboepahgaaWayP
import Derived.Test.YtedpkhboepahgaaSec
import Derived.Test.YtedpkhboepahgaaRfS
import Derived.WalkKit
import Derived.Lib.Hide
import Derived.Deep.QuietTactic
import Derived.BigQuiet
import Derived.OwnWalk
import Derived.Deep.RegionHeld3
namespace Go.Proofs.Ytedpkhboepahgaa
open Go.RowKit
theorem pack_two {y z : Int} (h : 0 ≤ y ∧ y ≤ 990) (k : 0 ≤ z ∧ z ≤ 990) : PackP [y, z] :=
  ⟨⟨by simp, fun j hj => by
    have : j = 0 ∨ j = 1 := by simp at hj; omega
    rcases this with rfl | rfl
    · exact h
    · exact k⟩, by simp⟩
theorem own2_at {w : World} {N : Nat} (x y : Int) (h : w.heap.size = N) : IntsAt (w.alloc (.cells #[.int .i64 x, .int .i64 y] 3)) (some ⟨N, 0, none⟩) 2 2 [x, y] := by
  subst h
  exact (OwnI.ints (show OwnI w.heap.size (w.alloc (.cells #[.int .i64 x, .int .i64 y] 3)) (.slice (some ⟨w.heap.size, 0, none⟩) 2 2) [x, y] from own_lit 3 w #[.int .i64 x, .int .i64 y] (by simp))).1
theorem box6 {w : World} {b : Nat} {ty : TypeId} {fr : Nat × Nat} {o0 o1 o2 o3 o4 o5 : Value} (h : w.heap[b]? = some (.cells #[o0, o1, o2, o3, o4, o5] ty fr)) (v0 v1 v2 v3 v4 v5 : Value) :
    ((((((w.setCell ⟨b, 0, none⟩ v0).setCell ⟨b, 1, none⟩ v1).setCell ⟨b, 2, none⟩ v2).setCell ⟨b, 3, none⟩ v3).setCell ⟨b, 4, none⟩ v4).setCell ⟨b, 5, none⟩ v5).heap[b]? = some (.cells #[v0, v1, v2, v3, v4, v5] ty fr) := by
  rw [heap_setCell_at (heap_setCell_at (heap_setCell_at (heap_setCell_at (heap_setCell_at (heap_setCell_at h v0) v1) v2) v3) v4) v5]
  rfl
set_option maxRecDepth 16000 in
set_option maxHeartbeats 4000000 in
theorem fnReplyWay_walk (ao : Option Addr) (n cap : Nat) (bo : Option Addr) (m cap' : Nat) (w : World) (h1 : CodeAt w ao n cap) (_h2 : CodeAt w bo m cap') :
    Calls Try.prog 3 #[.slice ao n cap, .slice bo m cap'] w fun e w' => e = .returned (.bool true) ∧ w.grownBy w' none := by
  by_cases a : (1048576 : Int) < n
  · go_enter Try.func3, Try.ntmps3
    go_wp2
    go_ret
    exact ⟨rfl, grown_refl _ _⟩
  by_cases b : (1048576 : Int) < m
  · go_enter Try.func3, Try.ntmps3
    go_wp2
    go_ret
    exact ⟨rfl, grown_refl _ _⟩
  · go_enter Try.func3, Try.ntmps3
    go_wp2_with fail
    refine (drawReplyMake_any _ _ _ _ h1).mono ?_
    rintro e w1 ⟨s, r, ps, ns, pa, pn, pc, na, nn, nc, rfl, i1, j1, g1⟩
    have I1 := Lib.hid i1
    have J1 := Lib.hid j1
    have G1 := Lib.hid g1
    clear i1 j1 g1
    go_wp2_with fail
    refine (replyMake_any s _ _ _ _ ps _ _ _ ns r I1.out J1.out).mono ?_
    rintro e w2 ⟨ha, hc, ka, kc, M2, rfl, oh, ok, g2, -, -⟩
    obtain ⟨P, hP⟩ : ∃ P, rmR s ps ns r = P := ⟨_, rfl⟩
    rw [hP] at oh ok ⊢
    obtain ⟨⟨F, E, H, T⟩, K⟩ := P
    have HP := Lib.hid hP
    simp only [] at oh ok ⊢
    obtain ⟨hN, hHN⟩ : ∃ N, H.length = N := ⟨_, rfl⟩
    obtain ⟨kN, hKN⟩ : ∃ N, K.length = N := ⟨_, rfl⟩
    rw [hHN] at oh ⊢
    rw [hKN] at ok ⊢
    have HHN := Lib.hid hHN
    have HKN := Lib.hid hKN
    obtain ⟨b, hb⟩ : ∃ b, pb (MkP s ps ns r []) = b := ⟨_, rfl⟩
    rw [hb]
    have HB := Lib.hid hb
    have bb : (b != b) = false := by cases b <;> rfl
    have bb2 : (b == b) = true := by cases b <;> rfl
    have GA := Lib.hid (grown_alloc w2 (.cells #[.int .i64 F, .int .i64 E, .slice ha hN hc, .int .i64 T] 27) none)
    have G2 := Lib.hid (grown_trans G1.out (grown_trans g2 GA.out))
    have I2 := Lib.hid (I1.out.grown (grown_trans g2 GA.out))
    have J2 := Lib.hid (J1.out.grown (grown_trans g2 GA.out))
    have H2 := Lib.hid (OwnI.grown oh GA.out).ints.1
    have K2 := Lib.hid (OwnI.grown ok GA.out).ints.1
    have D2 := Lib.hid (heap_alloc_new w2 (.cells #[.int .i64 F, .int .i64 E, .slice ha hN hc, .int .i64 T] 27))
    have Z2 := Lib.hid (show w.heap.size ≤ w2.heap.size from (grown_trans G1.out g2).size)
    obtain ⟨xb, hxb⟩ : ∃ x, w2.heap.size = x := ⟨_, rfl⟩
    have ZX := Lib.hid (show w.heap.size ≤ xb by rw [← hxb]; exact Z2.out)
    rw [hxb] at D2
    clear oh ok g2 GA hP hHN hKN hb I1 J1 G1 Z2
    go_wp2_with fail
    refine (replyMakeS_any s _ _ _ _ ps _ _ _ ns r I2.out J2.out).mono ?_
    rintro e w3 ⟨ha', hc', ka', kc', M3, rfl, oh, ok, g3, -, -⟩
    rw [HP.out] at oh ok ⊢
    simp only [] at oh ok ⊢
    rw [HHN.out] at oh ⊢
    rw [HKN.out] at ok ⊢
    rw [HB.out]
    clear hxb
    have GA := Lib.hid (grown_alloc w3 (.cells #[.int .i64 F, .int .i64 E, .slice ha' hN hc', .int .i64 T] 27) none)
    have G3 := Lib.hid (grown_trans G2.out (grown_trans g3 GA.out))
    have I3 := Lib.hid (I2.out.grown (grown_trans g3 GA.out))
    have J3 := Lib.hid (J2.out.grown (grown_trans g3 GA.out))
    have H3 := Lib.hid (H2.out.grown (grown_trans g3 GA.out))
    have K3 := Lib.hid (K2.out.grown (grown_trans g3 GA.out))
    have D3 := Lib.hid (blkK (grown_trans g3 GA.out) D2.out (by simp))
    have H3' := Lib.hid (OwnI.grown oh GA.out).ints.1
    have K3' := Lib.hid (OwnI.grown ok GA.out).ints.1
    have D3' := Lib.hid (heap_alloc_new w3 (.cells #[.int .i64 F, .int .i64 E, .slice ha' hN hc', .int .i64 T] 27))
    have d0 := blkC D3.out 0 rfl
    have d1 := blkC D3.out 1 rfl
    have d2 := blkC D3.out 2 rfl
    have d3 := blkC D3.out 3 rfl
    have e0 := blkC D3'.out 0 rfl
    have e1 := blkC D3'.out 1 rfl
    have e2 := blkC D3'.out 2 rfl
    have e3 := blkC D3'.out 3 rfl
    clear oh ok g3 I2 J2 H2 K2 G2 D2 GA
    go_wp2_with fail
    refine (sameBlock_any F E T _ ha hN hc ha' hc' H H3.out H3'.out).mono ?_
    rintro e w4 ⟨rfl, g4⟩
    have G4 := Lib.hid (grown_trans G3.out g4)
    have I4 := Lib.hid (I3.out.grown g4)
    have J4 := Lib.hid (J3.out.grown g4)
    have H4 := Lib.hid (H3.out.grown g4)
    have K4 := Lib.hid (K3.out.grown g4)
    have D4 := Lib.hid (blkK g4 D3.out (by simp))
    have H4' := Lib.hid (H3'.out.grown g4)
    have K4' := Lib.hid (K3'.out.grown g4)
    have D4' := Lib.hid (blkK g4 D3'.out (by simp))
    clear g4 d0 d1 d2 d3 e0 e1 e2 e3 I3 J3 H3 K3 G3 D3 H3' K3' D3'
    go_wp2_with fail
    refine (sameInts_any _ _ _ _ K _ _ _ K K4.out K4'.out).mono ?_
    rintro e w5 ⟨rfl, g5⟩
    rw [pb_true (p := K = K) rfl]
    replace g5 := drewN_grown g5 none
    have G5 := Lib.hid (grown_trans G4.out g5)
    have I5 := Lib.hid (I4.out.grown g5)
    have J5 := Lib.hid (J4.out.grown g5)
    have H5 := Lib.hid (H4.out.grown g5)
    have K5 := Lib.hid (K4.out.grown g5)
    have D5 := Lib.hid (blkK g5 D4.out (by simp))
    have H5' := Lib.hid (H4'.out.grown g5)
    have K5' := Lib.hid (K4'.out.grown g5)
    have D5' := Lib.hid (blkK g5 D4'.out (by simp))
    have d0 := blkC D5.out 0 rfl
    have d1 := blkC D5.out 1 rfl
    have d2 := blkC D5.out 2 rfl
    have d3 := blkC D5.out 3 rfl
    clear g5 I4 J4 H4 K4 G4 D4 H4' K4' D4'
    cases b with
    | false =>
      have e0 := blkC D5'.out 0 rfl
      have e1 := blkC D5'.out 1 rfl
      have e2 := blkC D5'.out 2 rfl
      have e3 := blkC D5'.out 3 rfl
      go_wp2_with fail
      refine (sameBlock_any F E T _ ha hN hc ha' hc' H H5.out H5'.out).mono ?_
      rintro e w6 ⟨rfl, g6⟩
      have G6 := Lib.hid (grown_trans G5.out g6)
      have K6 := Lib.hid (K5.out.grown g6)
      have K6' := Lib.hid (K5'.out.grown g6)
      clear g6 d0 d1 d2 d3 e0 e1 e2 e3
      go_wp2_with fail
      refine (sameInts_any _ _ _ _ K _ _ _ K K6.out K6'.out).mono ?_
      rintro e w7 ⟨rfl, g7⟩
      rw [pb_true (p := K = K) rfl]
      replace g7 := drewN_grown g7 none
      have GG := Lib.hid (grown_trans G6.out g7)
      clear g7
      go_wp2_with fail
      go_ret
      exact ⟨rfl, GG.out⟩
    | true =>
      have M := Lib.hid (pb_iff.1 HB.out)
      have n13 : 1 ≤ nn ∧ nn ≤ 3 := by have := M.out.2.1.2.2; have := M.out.2.2.1; have := I5.out.len; have := J5.out.len; omega
      have NL := Lib.hid J5.out.len
      clear H5 K5 H5' K5' D5 D5' HHN HKN HP d0 d1 d2 d3
      go_wp2_with fail
      refine (secrets_any m nn _ (by omega) (by omega)).mono ?_
      rintro q w6 ⟨sa, sc, sb, sd, rfl, a6, b6, g6⟩
      have G6 := Lib.hid (grown_trans G5.out g6)
      have J6 := Lib.hid (J5.out.grown g6)
      have A6 := Lib.hid a6
      have B6 := Lib.hid b6
      clear g6 a6 b6 I5 J5 G5
      have MB := Lib.hid (show MkP s (seB m nn) ns r [] from ⟨pack_nil, ⟨M.out.2.1.1, seB_els m nn, by rw [seB_len]; omega, by rw [seB_len]; omega⟩, by rw [seB_len]; exact NL.out, M.out.2.2.2⟩)
      obtain ⟨BP, hBP⟩ : ∃ x, seB m nn = x := ⟨_, rfl⟩
      have HBP := Lib.hid hBP
      rw [hBP] at B6 MB
      go_wp2_with fail
      refine (replyMake_any s _ _ _ _ BP _ _ _ ns r B6.out J6.out).mono ?_
      rintro q w7 ⟨ha, hc, ka, kc, M2, rfl, oh, ok, g7, -, -⟩
      rw [rmR_yes MB.out] at oh ok ⊢
      rw [pb_true MB.out]
      unfold rmL at oh ok ⊢
      simp only [] at oh ok ⊢
      have KP := Lib.hid (mkP_ok MB.out)
      obtain ⟨ks, hks⟩ : ∃ x, keysL s BP = x := ⟨_, rfl⟩
      have HKS := Lib.hid hks
      rw [hks] at oh ok KP ⊢
      have HOK := hdrL_ok KP.out.1 M.out.2.2.2.1 KP.out.2 M.out.2.2.2.2
      have LK := Lib.hid (show ks.length = nn by have := KP.out.2; have := NL.out; omega)
      rw [HOK.2] at oh ⊢
      rw [LK.out] at ok ⊢
      obtain ⟨F1, hF1⟩ : ∃ x, ns.getD 0 0 = x := ⟨_, rfl⟩
      obtain ⟨E1, hE1⟩ : ∃ x, prodZ s 5 = x := ⟨_, rfl⟩
      obtain ⟨H1, hH1⟩ : ∃ x, hdrL ks ns r = x := ⟨_, rfl⟩
      rw [hH1] at oh HOK ⊢
      obtain ⟨T1, hT1⟩ : ∃ x, tagL (ks.getD 0 0) H1 = x := ⟨_, rfl⟩
      rw [hF1, hE1, hT1]
      have HF1 := Lib.hid hF1
      have HE1 := Lib.hid hE1
      have HH1 := Lib.hid hH1
      have HT1 := Lib.hid hT1
      have OK1 := Lib.hid HOK
      clear hF1 hE1 hH1 hT1 HOK hks hBP
      obtain ⟨k, hk⟩ : ∃ k, m % 900 = k := ⟨_, rfl⟩
      have hk9 : k < 900 := by omega
      have hkz : (m : Int) % 900 = (k : Int) := by omega
      have hkt : (m : Int).tmod 900 = (k : Int) := by rw [Int.tmod_eq_emod_of_nonneg (by omega)]; exact hkz
      clear hk
      have PL := Lib.hid (pack_two (y := (k : Int)) (z := 7) (by omega) (by omega))
      have ga := grown_trans (grown_alloc w7 (.cells #[.int .i64 F1, .int .i64 E1, .slice ha 9 hc, .int .i64 T1] 27) none) (grown_alloc _ (.cells #[.int .i64 (k : Int), .int .i64 7] 3) none)
      have G7 := Lib.hid (grown_trans G6.out (grown_trans g7 ga))
      have A7 := Lib.hid (A6.out.grown (grown_trans g7 ga))
      have J7 := Lib.hid (J6.out.grown (grown_trans g7 ga))
      have H7 := Lib.hid (OwnI.grown oh ga).ints.1
      have K7 := Lib.hid (OwnI.grown ok ga).ints.1
      have L7 := Lib.hid (own2_at (w := w7.alloc (.cells #[.int .i64 F1, .int .i64 E1, .slice ha 9 hc, .int .i64 T1] 27)) (k : Int) 7 (show _ = w7.heap.size + 1 by simp))
      have D7 := Lib.hid (show ((w7.alloc (.cells #[.int .i64 F1, .int .i64 E1, .slice ha 9 hc, .int .i64 T1] 27)).alloc (.cells #[.int .i64 (k : Int), .int .i64 7] 3)).heap[w7.heap.size]? = some (.cells #[.int .i64 F1, .int .i64 E1, .slice ha 9 hc, .int .i64 T1] 27) from blkA (heap_alloc_new w7 _))
      have d0 := blkC D7.out 0 rfl
      have d1 := blkC D7.out 1 rfl
      have d2 := blkC D7.out 2 rfl
      have d3 := blkC D7.out 3 rfl
      clear ga g7 oh ok A6 B6 J6 G6
      go_wp2_with fail
      have NMF := Lib.hid (M.out.2.2.2.1 0 (by have := NL.out; omega))
      have FB := Lib.hid (show fillB F1 E1 H1 T1 [(k : Int), 7] = true by
        unfold fillB
        rw [pb_true PL.out, nmB_iff.2 (by rw [← HF1.out]; exact NMF.out), vB_iff.2 ⟨by rw [← HE1.out]; exact prod_el M.out.2.1.1 (by omega), OK1.out, ⟨by rw [packR_yes PL.out]; exact packL_list PL.out, by rw [packR_yes PL.out, packL_len PL.out.2]⟩, by rw [← HT1.out]; exact tagL_range _ _⟩]
        rfl)
      refine (replyFill_any F1 E1 T1 _ ha 9 hc _ 2 2 H1 [(k : Int), 7] H7.out L7.out (by omega)).mono ?_
      rintro q w8 ⟨xa, xc, ya, yc, rfl, ox, oy, g8⟩
      rw [fillR_yes FB.out] at ox oy ⊢
      rw [FB.out]
      simp only [] at ox oy ⊢
      rw [packR_yes PL.out] at oy ⊢
      rw [OK1.out.2] at ox ⊢
      rw [packL_len PL.out.2] at oy ⊢
      obtain ⟨L, hL⟩ : ∃ x, packL [(k : Int), 7] = x := ⟨_, rfl⟩
      have HL := Lib.hid hL
      rw [hL] at oy
      clear hL d0 d1 d2 d3 NMF D7
      have ga := grown_alloc w8 (.cells #[.int .i64 E1, .slice xa 9 xc, .int .i64 T1, .slice ya 6 yc] 35) none
      have G8 := Lib.hid (grown_trans G7.out g8)
      have A8 := Lib.hid (A7.out.grown g8)
      have K8 := Lib.hid (K7.out.grown g8)
      have L8 := Lib.hid (L7.out.grown g8)
      have X8 := Lib.hid (OwnI.grown ox ga).ints.1
      have Y8 := Lib.hid (OwnI.grown oy ga).ints.1
      have DQ8 := Lib.hid (heap_alloc_new w8 (.cells #[.int .i64 E1, .slice xa 9 xc, .int .i64 T1, .slice ya 6 yc] 35))
      have GQ8 := Lib.hid (grown_alloc w8 (.cells #[.int .i64 E1, .slice xa 9 xc, .int .i64 T1, .slice ya 6 yc] 35) none)
      have GS8 := Lib.hid (show w8.heap.size + 1 = (w8.alloc (.cells #[.int .i64 E1, .slice xa 9 xc, .int .i64 T1, .slice ya 6 yc] 35)).heap.size by simp)
      clear g8 ga ox oy G7 A7 K7 L7 H7 J7
      obtain ⟨xq, hxq⟩ : ∃ x, w8.heap.size = x := ⟨_, rfl⟩
      rw [hxq] at DQ8 GS8
      have QE := Lib.hid (show w8.heap.size ≤ xq by omega)
      go_wp2_with fail
      go_loopw [24, 25, 26] (fun q u v wr => ∃ j : Nat, ∃ xa xc ya yc, ∃ E T : Int, ∃ Hh : List Int, j ≤ nn ∧ q = .int .i64 j ∧ Hid (wr.heap[xq]? = some (.cells #[.int .i64 E, .slice xa 9 xc, .int .i64 T, .slice ya 6 yc] 35)) ∧ Hid (IntsAt wr xa 9 xc Hh) ∧ Hid (IntsAt wr ya 6 yc (offAll L (ks.take j))) ∧ Hid (j < nn → E = elL s BP j ∧ Hh = hdrI ks ns r j ∧ T = tagL (ks.getD j 0) Hh) ∧ Hid (w8.grownBy wr none)) (fun q _ _ _ => nn - (intOf q).toNat)
      case atStart => exact ⟨0, xa, xc, ya, yc, E1, T1, H1, by omega, rfl, DQ8, X8, Y8, Lib.hid (fun _ => ⟨HE1.out.symm, HH1.out.symm, HT1.out.symm⟩), GQ8⟩
      case round =>
        clear X8 Y8 DQ8 GQ8 GS8
        obtain ⟨j, xa, xc, ya, yc, E, T, Hh, hj, rfl, DQ, hx, hy, hh, hg⟩ := hrel
        have QW := Lib.hid (blkL DQ.out)
        by_cases hlt : j < nn
        · obtain ⟨eE, eH, eT⟩ := hh.out hlt
          have AW := A8.out.grown hg.out
          obtain ⟨ab, aoff, rfl, hab, hac⟩ := IntsAt.addr AW (by omega)
          have AB := Lib.hid hab
          have cj := hac j hlt
          have aJ := seA_el (m := m) hlt
          have bJ := seB_at (m := m) hlt
          obtain ⟨aj, haj⟩ : ∃ x, (seA m nn).getD j 0 = x := ⟨_, rfl⟩
          rw [haj] at cj aJ bJ
          rw [HBP.out] at bJ
          have AJ := Lib.hid aJ
          have els : ElsP BP := by rw [← HBP.out]; exact seB_els m nn
          have bln : BP.length = nn := by rw [← HBP.out, seB_len]
          have hsh : prodZ aj E = ks.getD j 0 := by rw [eE, ← HKS.out]; exact elL_share M.out.2.1.1 els aJ (by omega) bJ
          have HKJ := Lib.hid hsh
          obtain ⟨BB, hB0⟩ : ∃ x, offAll L (ks.take j) = x := ⟨_, rfl⟩
          rw [hB0] at hy
          have HB0 := Lib.hid hB0.symm
          obtain ⟨P, hP⟩ : ∃ x, offL (Hh ++ [0, 0, 0]) (prodZ aj E) = x := ⟨_, rfl⟩
          have PP := Lib.hid hP
          have hP' := hP
          rw [hsh, eH] at hP'
          have PO := Lib.hid (peel_ok KP.out.1 M.out.2.2.2.1 KP.out.2 M.out.2.2.2.2 (by have := LK.out; omega) hP')
          have P01 := Lib.hid PO.out.1
          have P17 := Lib.hid PO.out.2.1
          have TT := Lib.hid (show T = tagL (prodZ aj E) Hh by rw [hsh]; exact eT)
          have HI := hdrI_ok (ks := ks) (ns := ns) (r := r) KP.out.1 M.out.2.2.2.1 KP.out.2 M.out.2.2.2.2 j
          have LL : ListP L := by rw [← HL.out]; exact packL_list PL.out
          have L6 : L.length = 6 := by rw [← HL.out]; exact packL_len PL.out.2
          have VB := Lib.hid (show vB E Hh T BB = true from vB_iff.2 ⟨by rw [eE]; exact elL_el M.out.2.1.1 els j, by rw [eH]; exact HI, by rw [← hB0]; exact ⟨offAll_list LL _, by rw [offAll_len]; exact L6⟩, by rw [eT]; exact tagL_range _ _⟩)
          obtain ⟨E2, hE2⟩ : ∃ x, prodZ E (factZ (prodZ aj E)) = x := ⟨_, rfl⟩
          have HE2 := Lib.hid hE2
          have HEL := Lib.hid (show E2 = elL s BP (j + 1) by rw [← hE2, hsh, eE, ← HKS.out]; exact elL_step M.out.2.1.1 els (by omega))
          obtain ⟨B2, hB2⟩ : ∃ x, offL BB (prodZ aj E) = x := ⟨_, rfl⟩
          have HBB := Lib.hid hB2
          obtain ⟨p0, hp0⟩ : ∃ x, P.getD 0 0 = x := ⟨_, rfl⟩
          obtain ⟨p1, hp1⟩ : ∃ x, P.getD 1 0 = x := ⟨_, rfl⟩
          obtain ⟨p2, hp2⟩ : ∃ x, P.getD 2 0 = x := ⟨_, rfl⟩
          have HP0 := Lib.hid hp0
          have HP1 := Lib.hid hp1
          have HP2 := Lib.hid hp2
          have HA := Lib.hid (show IntsAt wr.drew xa 9 xc Hh from hx.out.grown (gDrew (grown_refl _ none)))
          have HZ := Lib.hid (show IntsAt (wr.alloc pl0).drew xa 9 xc Hh from hx.out.grown (gDrew (grown_alloc _ _ none)))
          have BA := Lib.hid (show IntsAt wr.drew ya 6 yc BB from hy.out.grown (gDrew (grown_refl _ none)))
          have BZ := Lib.hid (show IntsAt (wr.alloc pl0).drew ya 6 yc BB from hy.out.grown (gDrew (grown_alloc _ _ none)))
          have x0 := cell_dr cj
          have x1 := cell_dr (blkC DQ.out 0 rfl)
          have x2 := cell_dr (blkC DQ.out 1 rfl)
          have x3 := cell_dr (blkC DQ.out 2 rfl)
          have x4 := cell_dr (blkC DQ.out 3 rfl)
          have z0 := cell_ad (o := pl0) cj
          have z1 := cell_ad (o := pl0) (blkC DQ.out 0 rfl)
          have z2 := cell_ad (o := pl0) (blkC DQ.out 1 rfl)
          have z3 := cell_ad (o := pl0) (blkC DQ.out 2 rfl)
          have z4 := cell_ad (o := pl0) (blkC DQ.out 3 rfl)
          have i0 : (0 : Int) ≤ (j : Int) := by omega
          have i1 : (j : Int) < (nn : Int) := by omega
          clear eE eH eT AW hac cj aJ bJ haj hsh hB0 hP hP' HI LL L6 hE2 hB2 hp0 hp1 hp2 hx hy hh hab els bln
          go_wp2_with fail
          go_region_held3 (fun w' => w'.cell? ⟨ab, aoff + j, none⟩ = some (.int .i64 aj) ∧ w'.cell? ⟨xq, 0, none⟩ = some (.int .i64 E) ∧ w'.cell? ⟨xq, 1, none⟩ = some (.slice xa 9 xc) ∧ w'.cell? ⟨xq, 2, none⟩ = some (.int .i64 T) ∧ w'.cell? ⟨xq, 3, none⟩ = some (.slice ya 6 yc)) (first | go_keep | with_reducible exact ⟨x0, x1, x2, x3, x4⟩ | with_reducible exact ⟨z0, z1, z2, z3, z4⟩ | with_reducible exact ⟨y0, y1, y2, y3, y4⟩ | with_reducible exact ⟨v0, v1, v2, v3, v4⟩ | with_reducible exact ⟨s0, s1, s2, s3, s4⟩)
            (first
            | (go_at_call 18; refine (packetPeel_any aj E T _ xa xc ya yc Hh BB P HZ.out BZ.out AJ.out VB.out TT.out PP.out P01.out P17.out).mono ?_; rintro q w9 ⟨a9, c9, b9, d9, rfl, o9, u9, g9⟩; rw [HE2.out, HP0.out, HP1.out, HP2.out]; rw [HBB.out] at u9; have y0 := g9.cell z0 (by simp); have y1 := g9.cell z1 (by simp); have y2 := g9.cell z2 (by simp); have y3 := g9.cell z3 (by simp); have y4 := g9.cell z4 (by simp); have P0 := Lib.hid (blkK g9 (show (wr.alloc pl0).drew.heap[wr.heap.size]? = some pl0 from heap_alloc_new wr pl0) (by simp)); have d0 := blkC P0.out 0 rfl; have d1 := blkC P0.out 1 rfl; have d2 := blkC P0.out 2 rfl; have d3 := blkC P0.out 3 rfl; have d4 := blkC P0.out 4 rfl; have d5 := blkC P0.out 5 rfl; have f0 := blkF P0.out 0; have f1 := blkF P0.out 1; have f2 := blkF P0.out 2; have f3 := blkF P0.out 3; have f4 := blkF P0.out 4; have f5 := blkF P0.out 5; have nx9 : some xq ≠ some wr.heap.size := (by have := QW.out; simp; omega); have na9 : some ab ≠ some wr.heap.size := (by have := AB.out; have := QW.out; simp; omega); have gsX := (grown_trans (grown_trans (grown_trans (grown_trans (grown_trans (grown_set w9 wr.heap.size 0 (.int .i64 p0)) (grown_set _ wr.heap.size 1 (.int .i64 p1))) (grown_set _ wr.heap.size 2 (.int .i64 E2))) (grown_set _ wr.heap.size 3 (.slice a9 9 c9))) (grown_set _ wr.heap.size 4 (.int .i64 p2))) (grown_set _ wr.heap.size 5 (.slice b9 6 d9))); have s0 := gsX.cell y0 na9; have s1 := gsX.cell y1 nx9; have s2 := gsX.cell y2 nx9; have s3 := gsX.cell y3 nx9; have s4 := gsX.cell y4 nx9; clear gsX)
            | (go_at_call 18; refine (packetPeel_any aj E T _ xa xc ya yc Hh BB P HA.out BA.out AJ.out VB.out TT.out PP.out P01.out P17.out).mono ?_; rintro q w9 ⟨a9, c9, b9, d9, rfl, o9, u9, g9⟩; rw [HE2.out, HP0.out, HP1.out, HP2.out]; rw [HBB.out] at u9; have y0 := g9.cell x0 (by simp); have y1 := g9.cell x1 (by simp); have y2 := g9.cell x2 (by simp); have y3 := g9.cell x3 (by simp); have y4 := g9.cell x4 (by simp); have v0 := (grown_alloc w9 pl0 none).cell y0 (by simp); have v1 := (grown_alloc w9 pl0 none).cell y1 (by simp); have v2 := (grown_alloc w9 pl0 none).cell y2 (by simp); have v3 := (grown_alloc w9 pl0 none).cell y3 (by simp); have v4 := (grown_alloc w9 pl0 none).cell y4 (by simp); have P0 := Lib.hid (heap_alloc_new w9 pl0); have d0 := blkC P0.out 0 rfl; have d1 := blkC P0.out 1 rfl; have d2 := blkC P0.out 2 rfl; have d3 := blkC P0.out 3 rfl; have d4 := blkC P0.out 4 rfl; have d5 := blkC P0.out 5 rfl; have f0 := blkF P0.out 0; have f1 := blkF P0.out 1; have f2 := blkF P0.out 2; have f3 := blkF P0.out 3; have f4 := blkF P0.out 4; have f5 := blkF P0.out 5; have nx9 : some xq ≠ some w9.heap.size := (by have := QW.out; have := (show wr.heap.size ≤ w9.heap.size from g9.size); simp; omega); have na9 : some ab ≠ some w9.heap.size := (by have := AB.out; have := QW.out; have := (show wr.heap.size ≤ w9.heap.size from g9.size); simp; omega); have gsX := (grown_trans (grown_trans (grown_trans (grown_trans (grown_trans (grown_set (w9.alloc pl0) w9.heap.size 0 (.int .i64 p0)) (grown_set _ w9.heap.size 1 (.int .i64 p1))) (grown_set _ w9.heap.size 2 (.int .i64 E2))) (grown_set _ w9.heap.size 3 (.slice a9 9 c9))) (grown_set _ w9.heap.size 4 (.int .i64 p2))) (grown_set _ w9.heap.size 5 (.slice b9 6 d9))); have s0 := gsX.cell v0 na9; have s1 := gsX.cell v1 nx9; have s2 := gsX.cell v2 nx9; have s3 := gsX.cell v3 nx9; have s4 := gsX.cell v4 nx9; clear gsX))
          · clear y0 y1 y2 y3 y4 s0 s1 s2 s3 s4 d0 d1 d2 d3 d4 d5 f0 f1 f2 f3 f4 f5 v0 v1 v2 v3 v4
            have ga := grown_alloc w9 (.cells #[.int .i64 p0, .int .i64 p1, .int .i64 E2, .slice a9 9 c9, .int .i64 p2, .slice b9 6 d9] 39) none
            have GX := Lib.hid (show wr.grownBy (w9.alloc (.cells #[.int .i64 p0, .int .i64 p1, .int .i64 E2, .slice a9 9 c9, .int .i64 p2, .slice b9 6 d9] 39)) none from grown_trans (gDrew (grown_refl _ none)) (grown_trans g9 ga))
            have XO := Lib.hid (show OwnI wr.heap.size (w9.alloc (.cells #[.int .i64 p0, .int .i64 p1, .int .i64 E2, .slice a9 9 c9, .int .i64 p2, .slice b9 6 d9] 39)) (.slice a9 9 c9) (P.drop 3) from OwnI.grown o9 ga)
            have YO := Lib.hid (show OwnI wr.heap.size (w9.alloc (.cells #[.int .i64 p0, .int .i64 p1, .int .i64 E2, .slice a9 9 c9, .int .i64 p2, .slice b9 6 d9] 39)) (.slice b9 6 d9) B2 from OwnI.grown u9 ga)
            have XP := Lib.hid (heap_alloc_new w9 (.cells #[.int .i64 p0, .int .i64 p1, .int .i64 E2, .slice a9 9 c9, .int .i64 p2, .slice b9 6 d9] 39))
            have hX : wr.heap.size ≤ w9.heap.size := g9.size
            obtain ⟨w10, hw10⟩ : ∃ x, w9.alloc (.cells #[.int .i64 p0, .int .i64 p1, .int .i64 E2, .slice a9 9 c9, .int .i64 p2, .slice b9 6 d9] 39) = x := ⟨_, rfl⟩
            rw [hw10] at GX XO YO XP ⊢
            obtain ⟨xp, hxp⟩ : ∃ x, w9.heap.size = x := ⟨_, rfl⟩
            rw [hxp] at XP hX ⊢
            clear hw10 hxp P0 ga g9 o9 u9 nx9 na9
            clear x0 x1 x2 x3 x4 z0 z1 z2 z3 z4
            have DQ10 := Lib.hid (blkK GX.out DQ.out (by simp))
            have e0 := blkC XP.out 0 rfl
            have e1 := blkC XP.out 1 rfl
            have e2 := blkC XP.out 2 rfl
            have e3 := blkC XP.out 3 rfl
            have e4 := blkC XP.out 4 rfl
            have e5 := blkC XP.out 5 rfl
            have d0 := blkC DQ10.out 0 rfl
            have d1 := blkC DQ10.out 1 rfl
            have d2 := blkC DQ10.out 2 rfl
            have d3 := blkC DQ10.out 3 rfl
            have f0 := blkF DQ10.out 0
            have f1 := blkF DQ10.out 1
            have f2 := blkF DQ10.out 2
            have f3 := blkF DQ10.out 3
            have gq := (grown_trans (grown_trans (grown_trans (grown_set w10 xq 0 (.int .i64 E2)) (grown_set _ xq 1 (.slice a9 9 c9))) (grown_set _ xq 2 (.int .i64 p2))) (grown_set _ xq 3 (.slice b9 6 d9)))
            have GQ := Lib.hid (grown_new (grown_trans hg.out GX.out) gq (by have := QE.out; omega))
            have XQ := Lib.hid (OwnI.ints (OwnI.row XO.out gq (fun k e => by simp at e; have := QW.out; omega))).1
            have YQ := Lib.hid (OwnI.ints (OwnI.row YO.out gq (fun k e => by simp at e; have := QW.out; omega))).1
            have BQ := Lib.hid (box4 DQ10.out (.int .i64 E2) (.slice a9 9 c9) (.int .i64 p2) (.slice b9 6 d9))
            have BE := Lib.hid (show B2 = offAll L (ks.take (j + 1)) by rw [offAll_step (by have := LK.out; omega), ← HBB.out, HB0.out, HKJ.out])
            rw [BE.out] at YQ
            clear gq DQ10 XP XO YO GX
            by_cases hlast : j + 1 = nn
            · have p01 := (PO.out.2.2.1 (by have := LK.out; omega)).1
              have p11 := (PO.out.2.2.1 (by have := LK.out; omega)).2
              rw [HP0.out] at p01
              rw [HP1.out] at p11
              rw [p01] at e0 ⊢
              rw [p11] at e1 ⊢
              have il : (j : Int) + 1 = (nn : Int) := by omega
              have ib : ((nn : Int) == (nn : Int)) = true := by simp
              have rb : (r != r) = false := by simp
              go_wp2_with fail
              go_roundw
              case rel => exact ⟨j + 1, _, _, _, _, E2, p2, P.drop 3, by omega, by go_num, BQ, XQ, YQ, Lib.hid (fun e => by omega), GQ⟩
              case measure => simp [intOf]; omega
            · have nb : ((j : Int) + 1 == (nn : Int)) = false := by simp; omega
              have nx := PO.out.2.2.2 (by have := LK.out; omega)
              have NX := Lib.hid (show j + 1 < nn → E2 = elL s BP (j + 1) ∧ P.drop 3 = hdrI ks ns r (j + 1) ∧ p2 = tagL (ks.getD (j + 1) 0) (P.drop 3) from fun _ => ⟨HEL.out, nx.1, by rw [← HP2.out, nx.2, nx.1]⟩)
              clear nx
              go_wp2_with fail
              go_roundw
              case rel => exact ⟨j + 1, _, _, _, _, E2, p2, P.drop 3, by omega, by go_num, BQ, XQ, YQ, NX, GQ⟩
              case measure => simp [intOf]; omega
          all_goals
            clear y0 y1 y2 y3 y4 s0 s1 s2 s3 s4 d0 d1 d2 d3 d4 d5 f0 f1 f2 f3 f4 f5
            have gb := (grown_trans (grown_trans (grown_trans (grown_trans (grown_trans (grown_set w9 wr.heap.size 0 (.int .i64 p0)) (grown_set _ wr.heap.size 1 (.int .i64 p1))) (grown_set _ wr.heap.size 2 (.int .i64 E2))) (grown_set _ wr.heap.size 3 (.slice a9 9 c9))) (grown_set _ wr.heap.size 4 (.int .i64 p2))) (grown_set _ wr.heap.size 5 (.slice b9 6 d9)))
            have g9' : wr.grownBy w9 none := grown_trans (gDrew (grown_alloc _ pl0 none)) g9
            have GX := Lib.hid (grown_new g9' gb (Nat.le_refl _))
            have XO := Lib.hid (show OwnI wr.heap.size ((((((w9.setCell ⟨wr.heap.size, 0, none⟩ (.int .i64 p0)).setCell ⟨wr.heap.size, 1, none⟩ (.int .i64 p1)).setCell ⟨wr.heap.size, 2, none⟩ (.int .i64 E2)).setCell ⟨wr.heap.size, 3, none⟩ (.slice a9 9 c9)).setCell ⟨wr.heap.size, 4, none⟩ (.int .i64 p2)).setCell ⟨wr.heap.size, 5, none⟩ (.slice b9 6 d9)) (.slice a9 9 c9) (P.drop 3) from Own.lower (Own.apart o9 gb (ap_ne (fun k e => own_ne o9 P0.out (by decide) e))) (by simp))
            have YO := Lib.hid (show OwnI wr.heap.size ((((((w9.setCell ⟨wr.heap.size, 0, none⟩ (.int .i64 p0)).setCell ⟨wr.heap.size, 1, none⟩ (.int .i64 p1)).setCell ⟨wr.heap.size, 2, none⟩ (.int .i64 E2)).setCell ⟨wr.heap.size, 3, none⟩ (.slice a9 9 c9)).setCell ⟨wr.heap.size, 4, none⟩ (.int .i64 p2)).setCell ⟨wr.heap.size, 5, none⟩ (.slice b9 6 d9)) (.slice b9 6 d9) B2 from Own.lower (Own.apart u9 gb (ap_ne (fun k e => own_ne u9 P0.out (by decide) e))) (by simp))
            have XP := Lib.hid (show ((((((w9.setCell ⟨wr.heap.size, 0, none⟩ (.int .i64 p0)).setCell ⟨wr.heap.size, 1, none⟩ (.int .i64 p1)).setCell ⟨wr.heap.size, 2, none⟩ (.int .i64 E2)).setCell ⟨wr.heap.size, 3, none⟩ (.slice a9 9 c9)).setCell ⟨wr.heap.size, 4, none⟩ (.int .i64 p2)).setCell ⟨wr.heap.size, 5, none⟩ (.slice b9 6 d9)).heap[wr.heap.size]? = some (.cells #[.int .i64 p0, .int .i64 p1, .int .i64 E2, .slice a9 9 c9, .int .i64 p2, .slice b9 6 d9] 39) from box6 P0.out _ _ _ _ _ _)
            have hX : wr.heap.size ≤ wr.heap.size := Nat.le_refl _
            obtain ⟨w10, hw10⟩ : ∃ x, ((((((w9.setCell ⟨wr.heap.size, 0, none⟩ (.int .i64 p0)).setCell ⟨wr.heap.size, 1, none⟩ (.int .i64 p1)).setCell ⟨wr.heap.size, 2, none⟩ (.int .i64 E2)).setCell ⟨wr.heap.size, 3, none⟩ (.slice a9 9 c9)).setCell ⟨wr.heap.size, 4, none⟩ (.int .i64 p2)).setCell ⟨wr.heap.size, 5, none⟩ (.slice b9 6 d9)) = x := ⟨_, rfl⟩
            rw [hw10] at GX XO YO XP ⊢
            obtain ⟨xp, hxp⟩ : ∃ x, wr.heap.size = x := ⟨_, rfl⟩
            clear hw10 P0 gb g9 g9' o9 u9 nx9 na9
            rw [hxp] at XP ⊢
            have hX : wr.heap.size ≤ xp := by rw [← hxp]; exact Nat.le_refl _
            clear hxp
            clear x0 x1 x2 x3 x4 z0 z1 z2 z3 z4
            have DQ10 := Lib.hid (blkK GX.out DQ.out (by simp))
            have e0 := blkC XP.out 0 rfl
            have e1 := blkC XP.out 1 rfl
            have e2 := blkC XP.out 2 rfl
            have e3 := blkC XP.out 3 rfl
            have e4 := blkC XP.out 4 rfl
            have e5 := blkC XP.out 5 rfl
            have d0 := blkC DQ10.out 0 rfl
            have d1 := blkC DQ10.out 1 rfl
            have d2 := blkC DQ10.out 2 rfl
            have d3 := blkC DQ10.out 3 rfl
            have f0 := blkF DQ10.out 0
            have f1 := blkF DQ10.out 1
            have f2 := blkF DQ10.out 2
            have f3 := blkF DQ10.out 3
            have gq := (grown_trans (grown_trans (grown_trans (grown_set w10 xq 0 (.int .i64 E2)) (grown_set _ xq 1 (.slice a9 9 c9))) (grown_set _ xq 2 (.int .i64 p2))) (grown_set _ xq 3 (.slice b9 6 d9)))
            have GQ := Lib.hid (grown_new (grown_trans hg.out GX.out) gq (by have := QE.out; omega))
            have XQ := Lib.hid (OwnI.ints (OwnI.row XO.out gq (fun k e => by simp at e; have := QW.out; omega))).1
            have YQ := Lib.hid (OwnI.ints (OwnI.row YO.out gq (fun k e => by simp at e; have := QW.out; omega))).1
            have BQ := Lib.hid (box4 DQ10.out (.int .i64 E2) (.slice a9 9 c9) (.int .i64 p2) (.slice b9 6 d9))
            have BE := Lib.hid (show B2 = offAll L (ks.take (j + 1)) by rw [offAll_step (by have := LK.out; omega), ← HBB.out, HB0.out, HKJ.out])
            rw [BE.out] at YQ
            clear gq DQ10 XP XO YO GX
            by_cases hlast : j + 1 = nn
            · have p01 := (PO.out.2.2.1 (by have := LK.out; omega)).1
              have p11 := (PO.out.2.2.1 (by have := LK.out; omega)).2
              rw [HP0.out] at p01
              rw [HP1.out] at p11
              rw [p01] at e0 ⊢
              rw [p11] at e1 ⊢
              have il : (j : Int) + 1 = (nn : Int) := by omega
              have ib : ((nn : Int) == (nn : Int)) = true := by simp
              have rb : (r != r) = false := by simp
              go_wp2_with fail
              go_roundw
              case rel => exact ⟨j + 1, _, _, _, _, E2, p2, P.drop 3, by omega, by go_num, BQ, XQ, YQ, Lib.hid (fun e => by omega), GQ⟩
              case measure => simp [intOf]; omega
            · have nb : ((j : Int) + 1 == (nn : Int)) = false := by simp; omega
              have nx := PO.out.2.2.2 (by have := LK.out; omega)
              have NX := Lib.hid (show j + 1 < nn → E2 = elL s BP (j + 1) ∧ P.drop 3 = hdrI ks ns r (j + 1) ∧ p2 = tagL (ks.getD (j + 1) 0) (P.drop 3) from fun _ => ⟨HEL.out, nx.1, by rw [← HP2.out, nx.2, nx.1]⟩)
              clear nx
              go_wp2_with fail
              go_roundw
              case rel => exact ⟨j + 1, _, _, _, _, E2, p2, P.drop 3, by omega, by go_num, BQ, XQ, YQ, NX, GQ⟩
              case measure => simp [intOf]; omega
        · have LL := Lib.hid (show ListP L by rw [← HL.out]; exact packL_list PL.out)
          have L6 := Lib.hid (show L.length = 6 by rw [← HL.out]; exact packL_len PL.out.2)
          have BY := Lib.hid (show IntsAt wr ya 6 yc (offAll L ks) by have := hy.out; rw [List.take_of_length_le (by have := LK.out; omega)] at this; exact this)
          have OA := Lib.hid (onAll_offAll LL.out ks)
          have KY := Lib.hid (show KeyP ks (offAll L ks) from ⟨KP.out.1, offAll_list LL.out ks, by rw [offAll_len]; exact L6.out⟩)
          have OP := Lib.hid (show OpenP L by rw [← HL.out]; exact openP_pack PL.out)
          have RP := Lib.hid (show RoP ks (offAll L ks) from ⟨KY.out, by rw [OA.out]; exact OP.out⟩)
          have RR := Lib.hid (show roR ks (offAll L ks) = [(k : Int), 7] by rw [roR_yes KY.out, OA.out, openR_yes OP.out, ← HL.out, pack_open])
          have KW := Lib.hid (K8.out.grown hg.out)
          have LW := Lib.hid (L8.out.grown hg.out)
          have GW := Lib.hid (grown_trans G8.out hg.out)
          have d0 := blkC DQ.out 0 rfl
          have d1 := blkC DQ.out 1 rfl
          have d2 := blkC DQ.out 2 rfl
          have d3 := blkC DQ.out 3 rfl
          clear hx hy hh hg
          go_wp2_with fail
          refine (replyOpen_any _ _ _ _ ks _ _ _ (offAll L ks) KW.out BY.out).mono ?_
          rintro q w9 ⟨a9, c9, rfl, o9, g9⟩
          rw [RR.out] at o9 ⊢
          rw [pb_true RP.out]
          have O9 := Lib.hid (OwnI.ints o9).1
          have L9 := Lib.hid (LW.out.grown g9)
          have G9 := Lib.hid (grown_trans GW.out g9)
          clear o9 g9
          go_wp2_with fail
          refine (sameInts_any _ _ _ _ [(k : Int), 7] _ _ _ [(k : Int), 7] O9.out L9.out).mono ?_
          rintro e w10 ⟨rfl, g10⟩
          rw [pb_true (p := [(k : Int), 7] = [(k : Int), 7]) rfl]
          replace g10 := drewN_grown g10 none
          have GG := Lib.hid (grown_trans G9.out g10)
          clear g10
          go_wp2_with fail
          go_ret
          exact ⟨rfl, GG.out⟩
end Go.Proofs.Ytedpkhboepahgaa
