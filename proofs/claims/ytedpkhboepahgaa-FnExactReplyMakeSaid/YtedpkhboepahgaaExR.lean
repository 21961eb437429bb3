/- The walk of FnExactReplyMake. -/
import Derived.Test.YtedpkhboepahgaaBlkW
import Derived.WalkKit
import Derived.Lib.Hide
import Derived.Deep.QuietTactic
import Derived.BigQuiet
namespace Go.Proofs.Ytedpkhboepahgaa
open Go.RowKit
theorem eqBlock_any (f e t : Int) (w : World) (ha : Option Addr) (n hc : Nat) (hb : Option Addr) (hd : Nat) (H : List Int) (h : IntsAt w ha n hc H) (h' : IntsAt w hb n hd H) :
    Calls Try.prog 33 #[.agg #[.int .i64 f, .int .i64 e, .slice ha n hc, .int .i64 t], .agg #[.int .i64 f, .int .i64 e, .slice hb n hd, .int .i64 t]] w fun q w' => q = .returned (.bool true) ∧ w.grownBy w' none := by
  have G := Lib.hid (show w.grownBy ((w.alloc (.cells #[.int .i64 f, .int .i64 e, .slice ha n hc, .int .i64 t] 27)).alloc (.cells #[.int .i64 f, .int .i64 e, .slice hb n hd, .int .i64 t] 27)) none from gAlloc (grown_alloc w _ none) _)
  have I := Lib.hid (h.grown G.out)
  have J := Lib.hid (h'.grown G.out)
  have D1 := Lib.hid (show ((w.alloc (.cells #[.int .i64 f, .int .i64 e, .slice ha n hc, .int .i64 t] 27)).alloc (.cells #[.int .i64 f, .int .i64 e, .slice hb n hd, .int .i64 t] 27)).heap[w.heap.size]? = some (.cells #[.int .i64 f, .int .i64 e, .slice ha n hc, .int .i64 t] 27) from blkA (heap_alloc_new w _))
  have D2 := Lib.hid (show ((w.alloc (.cells #[.int .i64 f, .int .i64 e, .slice ha n hc, .int .i64 t] 27)).alloc (.cells #[.int .i64 f, .int .i64 e, .slice hb n hd, .int .i64 t] 27)).heap[w.heap.size + 1]? = some (.cells #[.int .i64 f, .int .i64 e, .slice hb n hd, .int .i64 t] 27) from heap_next (by simp))
  have d0 := blkC D1.out 0 rfl
  have d1 := blkC D1.out 1 rfl
  have d2 := blkC D1.out 2 rfl
  have d3 := blkC D1.out 3 rfl
  have e0 := blkC D2.out 0 rfl
  have e1 := blkC D2.out 1 rfl
  have e2 := blkC D2.out 2 rfl
  have e3 := blkC D2.out 3 rfl
  clear h h'
  go_enter Try.func33, Try.ntmps33
  go_wp2_with fail
  refine (eqIntS_any _ _ _ _ H _ _ _ H I.out J.out).mono ?_
  rintro q w7 ⟨rfl, g7⟩
  rw [pb_true (p := H = H) rfl]
  replace g7 := drewN_grown g7 none
  have GG := Lib.hid (grown_trans G.out g7)
  have D17 := Lib.hid (blkK g7 D1.out (by simp))
  have D27 := Lib.hid (blkK g7 D2.out (by simp))
  clear g7 d0 d1 d2 d3 e0 e1 e2 e3
  have d3 := blkC D17.out 3 rfl
  have e3 := blkC D27.out 3 rfl
  go_wp2_with fail
  go_ret
  exact ⟨rfl, GG.out⟩
theorem markBlock_any (B : Nat) (f e t k0 : Int) (w : World) (ha : Option Addr) (n hc : Nat) (H : List Int) (h : OwnI B w (.slice ha n hc) H) (hl : H.length = n) (hn : n ≤ 1000) (h0 : 0 ≤ k0) (h1 : k0 ≤ 1000000) :
    Calls Try.prog 36 #[.agg #[.int .i64 f, .int .i64 e, .slice ha n hc, .int .i64 t], .int .i64 k0] w (MarkPost B w ha n hc k0) := by
  have G := Lib.hid (grown_alloc w (.cells #[.int .i64 f, .int .i64 e, .slice ha n hc, .int .i64 t] 27) (Value.slice ha n hc).ownBlock)
  have O := Lib.hid (OwnI.grown h (grown_alloc w (.cells #[.int .i64 f, .int .i64 e, .slice ha n hc, .int .i64 t] 27) none))
  have HL := Lib.hid hl
  have D := Lib.hid (heap_alloc_new w (.cells #[.int .i64 f, .int .i64 e, .slice ha n hc, .int .i64 t] 27))
  have d2 := blkC D.out 2 rfl
  clear h hl
  go_enter Try.func36, Try.ntmps36
  go_wp2_with fail
  refine (markIntS_any B _ _ _ _ H k0 O.out HL.out (by omega) h0 (by omega)).mono ?_
  rintro q w2 ⟨rfl, g2, o2⟩
  have G2 := Lib.hid (grown_trans G.out g2)
  have O2 := Lib.hid o2
  clear g2 o2 d2
  go_wp2_with fail
  go_ret
  exact ⟨rfl, G2.out, O2.out⟩
theorem heldBlock_any (f e t k0 : Int) (w : World) (ha : Option Addr) (n hc : Nat) (h : IntsAt w ha n hc (markL k0 n)) (hn : n ≤ 1000) (h0 : 0 ≤ k0) (h1 : k0 ≤ 1000000) :
    Calls Try.prog 37 #[.agg #[.int .i64 f, .int .i64 e, .slice ha n hc, .int .i64 t], .int .i64 k0] w fun q w' => q = .returned (.int .i64 (k0 + n)) ∧ w.grownBy w' none := by
  have G := Lib.hid (grown_alloc w (.cells #[.int .i64 f, .int .i64 e, .slice ha n hc, .int .i64 t] 27) none)
  have O := Lib.hid (h.grown G.out)
  have D := Lib.hid (heap_alloc_new w (.cells #[.int .i64 f, .int .i64 e, .slice ha n hc, .int .i64 t] 27))
  have d2 := blkC D.out 2 rfl
  clear h
  go_enter Try.func37, Try.ntmps37
  go_wp2_with fail
  refine (heldIntS_any _ _ _ _ k0 O.out (by omega) h0 (by omega)).mono ?_
  rintro q w2 ⟨rfl, rfl⟩
  go_wp2_with fail
  go_ret
  exact ⟨rfl, G.out⟩
theorem rmR_len (s : Int) (ps ns : List Int) (r : Int) : (rmR s ps ns r).1.2.2.1.length ≤ 9 := by
  by_cases h : MkP s ps ns r []
  · rw [rmR_yes h]
    exact Nat.le_of_eq (hdrL_ok (mkP_ok h).1 h.2.2.2.1 (mkP_ok h).2 h.2.2.2.2).2
  · rw [rmR_no h]; simp
theorem rmR_klen (s : Int) (ps ns : List Int) (r : Int) : (rmR s ps ns r).2.length ≤ 3 := by
  by_cases h : MkP s ps ns r []
  · rw [rmR_yes h]
    show (keysL s ps).length ≤ 3
    rw [keysL_len]
    exact h.2.1.2.2.2
  · rw [rmR_no h]; simp
set_option maxRecDepth 16000 in
set_option maxHeartbeats 4000000 in
theorem fnExactReplyMake_walk (s : Int) (ao : Option Addr) (n cap : Nat) (xs : List Int) (bo : Option Addr) (n' cap' : Nat) (ys : List Int) (r : Int) (w : World) (hA : IntsAt w ao n cap xs) (hB : IntsAt w bo n' cap' ys) :
    Calls Try.prog 8 #[.int .i64 s, .slice ao n cap, .slice bo n' cap', .int .i64 r] w fun e w' => e = .returned (.bool true) ∧ w.grownBy w' none := by
  by_cases a : (1048576 : Int) < n
  · go_enter Try.func8, Try.ntmps8
    go_wp2
    go_ret
    exact ⟨rfl, grown_refl _ _⟩
  by_cases b : (1048576 : Int) < n'
  · go_enter Try.func8, Try.ntmps8
    go_wp2
    go_ret
    exact ⟨rfl, grown_refl _ _⟩
  · have HA := Lib.hid hA
    have HBB := Lib.hid hB
    have hxn : n ≤ 1000000000 := by omega
    have hyn : n' ≤ 1000000000 := by omega
    have HXL := Lib.hid hA.len
    have HYL := Lib.hid hB.len
    have hn1 : n ≤ 1048576 := by omega
    have hn2 : n' ≤ 1048576 := by omega
    clear hA hB
    go_enter Try.func8, Try.ntmps8
    go_wp2_with fail
    refine (toIntS_any _ _ _ _ xs HA.out hxn).mono ?_
    rintro q w1 ⟨a1, c1, rfl, o1, g1⟩
    rw [HXL.out] at o1 ⊢
    have O1 := Lib.hid o1
    have Y1 := Lib.hid (HBB.out.grown g1)
    have G1 := Lib.hid g1
    clear o1 g1
    go_wp2_with fail
    refine (toIntS_any _ _ _ _ ys Y1.out hyn).mono ?_
    rintro q w2 ⟨a2, c2, rfl, o2, g2⟩
    rw [HYL.out] at o2 ⊢
    have O2 := Lib.hid o2
    have P2 := Lib.hid (OwnI.grown O1.out g2)
    have G2 := Lib.hid (grown_trans G1.out g2)
    clear o2 g2 O1 Y1 G1
    go_wp2_with fail
    refine (replyMakeS_any s _ _ _ _ xs _ _ _ ys r (OwnI.ints P2.out).1 (OwnI.ints O2.out).1).mono ?_
    rintro q w3 ⟨wha, whac, wka, wkac, M3, rfl, oh, ok, g3, -, -⟩
    have hlen := rmR_len s xs ys r
    have hklen := rmR_klen s xs ys r
    obtain ⟨P, hP⟩ : ∃ P, rmR s xs ys r = P := ⟨_, rfl⟩
    rw [hP] at oh ok hlen hklen ⊢
    obtain ⟨⟨F, E, H, T⟩, K⟩ := P
    simp only [] at oh ok hlen hklen ⊢
    obtain ⟨hN, hHN⟩ : ∃ N, H.length = N := ⟨_, rfl⟩
    obtain ⟨kN, hKN⟩ : ∃ N, K.length = N := ⟨_, rfl⟩
    rw [hHN] at oh hlen ⊢
    rw [hKN] at ok hklen ⊢
    have HP := Lib.hid hP
    have HHN := Lib.hid hHN
    have HKN := Lib.hid hKN
    obtain ⟨b, hb⟩ : ∃ b, pb (MkP s xs ys r []) = b := ⟨_, rfl⟩
    rw [hb]
    have HB := Lib.hid hb
    have bb : (b != b) = false := by cases b <;> rfl
    have ga := grown_alloc w3 (.cells #[.int .i64 F, .int .i64 E, .slice wha hN whac, .int .i64 T] 27) none
    have bwh := Lib.hid (OwnI.blockIn oh)
    have bwk := Lib.hid (OwnI.blockIn ok)
    have WH := Lib.hid (OwnI.grown oh ga)
    have WK := Lib.hid (OwnI.grown ok ga)
    have DW := Lib.hid (heap_alloc_new w3 (.cells #[.int .i64 F, .int .i64 E, .slice wha hN whac, .int .i64 T] 27))
    have G := Lib.hid (grown_trans G2.out (grown_trans g3 ga))
    have GB2 := Lib.hid (show w.heap.size ≤ w2.heap.size from G2.out.size)
    obtain ⟨xw, hxw⟩ : ∃ x, w3.heap.size = x := ⟨_, rfl⟩
    rw [hxw] at DW bwh bwk
    have GZ := Lib.hid (show w.heap.size ≤ xw by have := GB2.out; have := g3.size; omega)
    have S3 := Lib.hid (show (w3.alloc (.cells #[.int .i64 F, .int .i64 E, .slice wha hN whac, .int .i64 T] 27)).heap.size = xw + 1 by simp [hxw])
    clear oh ok g3 ga hP hHN hKN hb P2 O2 G2
    go_wp2_with fail
    clear hxw
    refine (toIntS_any _ _ _ _ xs (HA.out.grown G.out) hxn).mono ?_
    rintro q w4 ⟨ax, cx, rfl, ox, g4⟩
    rw [HXL.out] at ox ⊢
    have X1 := Lib.hid ox
    have bx1 := Lib.hid (show ∀ k, (Value.slice ax n cx).ownBlock = some k → xw + 1 ≤ k ∧ k < w4.heap.size from fun k e => by have := OwnI.blockIn ox k e; have := S3.out; omega)
    have S4 := Lib.hid (show xw + 1 ≤ w4.heap.size by rw [← S3.out]; exact g4.size)
    clear ox
    replace WH := Lib.hid (OwnI.grown WH.out g4)
    replace WK := Lib.hid (OwnI.grown WK.out g4)
    replace DW := Lib.hid (blkK g4 DW.out (by simp))
    replace G := Lib.hid (grown_trans G.out g4)
    clear g4
    go_wp2_with fail
    refine (toIntS_any _ _ _ _ ys (HBB.out.grown G.out) hyn).mono ?_
    rintro q w5 ⟨ay, cy, rfl, oy, g5⟩
    rw [HYL.out] at oy ⊢
    have bx2 := Lib.hid (OwnI.blockIn oy)
    have S5 := Lib.hid (show w4.heap.size ≤ w5.heap.size from g5.size)
    (first | replace WH := Lib.hid (OwnI.grown WH.out g5) | skip)
    (first | replace WK := Lib.hid (OwnI.grown WK.out g5) | skip)
    (first | replace X1 := Lib.hid (OwnI.grown X1.out g5) | skip)
    (first | replace X2 := Lib.hid (OwnI.grown X2.out g5) | skip)
    (first | replace GH := Lib.hid (OwnI.grown GH.out g5) | skip)
    (first | replace GK := Lib.hid (OwnI.grown GK.out g5) | skip)
    (first | replace MH := Lib.hid (OwnI.grown MH.out g5) | skip)
    (first | replace MK := Lib.hid (OwnI.grown MK.out g5) | skip)
    (first | replace DW := Lib.hid (blkK g5 DW.out (by simp)) | skip)
    (first | replace DG := Lib.hid (blkK g5 DG.out (by simp)) | skip)
    replace G := Lib.hid (grown_trans G.out g5)
    clear g5
    have X2 := Lib.hid oy
    clear oy
    go_wp2_with fail
    refine (replyMake_any s _ _ _ _ xs _ _ _ ys r (OwnI.ints X1.out).1 (OwnI.ints X2.out).1).mono ?_
    rintro q w6 ⟨gha, ghac, gka, gkac, M6, rfl, oh, ok, g6, hM1, hM2⟩
    rw [HP.out] at oh ok ⊢
    simp only [] at oh ok ⊢
    rw [HHN.out] at oh ⊢
    rw [HKN.out] at ok ⊢
    rw [HB.out]
    simp only [HP.out] at hM1 hM2
    rw [HHN.out] at hM1
    rw [HKN.out] at hM2
    have ga := grown_alloc w6 (.cells #[.int .i64 F, .int .i64 E, .slice gha hN ghac, .int .i64 T] 27) none
    have bgh := Lib.hid (show ∀ k, (Value.slice gha hN ghac).ownBlock = some k → w5.heap.size ≤ k ∧ k < w6.heap.size ∧ k < M6 from fun k e => ⟨(OwnI.blockIn oh k e).1, (OwnI.blockIn oh k e).2, hM1 k e⟩)
    have bgk := Lib.hid (show ∀ k, (Value.slice gka kN gkac).ownBlock = some k → w5.heap.size ≤ k ∧ k < w6.heap.size ∧ M6 ≤ k from fun k e => ⟨(OwnI.blockIn ok k e).1, (OwnI.blockIn ok k e).2, hM2 k e⟩)
    have S6 := Lib.hid (show w5.heap.size ≤ w6.heap.size from g6.size)
    (first | replace WH := Lib.hid (OwnI.grown WH.out g6) | skip)
    (first | replace WK := Lib.hid (OwnI.grown WK.out g6) | skip)
    (first | replace X1 := Lib.hid (OwnI.grown X1.out g6) | skip)
    (first | replace X2 := Lib.hid (OwnI.grown X2.out g6) | skip)
    (first | replace GH := Lib.hid (OwnI.grown GH.out g6) | skip)
    (first | replace GK := Lib.hid (OwnI.grown GK.out g6) | skip)
    (first | replace MH := Lib.hid (OwnI.grown MH.out g6) | skip)
    (first | replace MK := Lib.hid (OwnI.grown MK.out g6) | skip)
    (first | replace DW := Lib.hid (blkK g6 DW.out (by simp)) | skip)
    (first | replace DG := Lib.hid (blkK g6 DG.out (by simp)) | skip)
    replace G := Lib.hid (grown_trans G.out g6)
    clear g6
    obtain ⟨xg, hxg⟩ : ∃ x, w6.heap.size = x := ⟨_, rfl⟩
    have GH := Lib.hid oh
    have GK := Lib.hid ok
    have DG := Lib.hid (heap_alloc_new w6 (.cells #[.int .i64 F, .int .i64 E, .slice gha hN ghac, .int .i64 T] 27))
    rw [hxg] at DG bgh bgk S6
    clear oh ok hM1 hM2
    replace GH := Lib.hid (OwnI.grown GH.out ga)
    replace GK := Lib.hid (OwnI.grown GK.out ga)
    replace WH := Lib.hid (OwnI.grown WH.out ga)
    replace WK := Lib.hid (OwnI.grown WK.out ga)
    replace X1 := Lib.hid (OwnI.grown X1.out ga)
    replace X2 := Lib.hid (OwnI.grown X2.out ga)
    replace DW := Lib.hid (blkK ga DW.out (by simp))
    replace G := Lib.hid (grown_trans G.out ga)
    clear ga
    have d0 := blkC DW.out 0 rfl
    have d1 := blkC DW.out 1 rfl
    have d2 := blkC DW.out 2 rfl
    have d3 := blkC DW.out 3 rfl
    have e0 := blkC DG.out 0 rfl
    have e1 := blkC DG.out 1 rfl
    have e2 := blkC DG.out 2 rfl
    have e3 := blkC DG.out 3 rfl
    go_wp2_with fail
    refine (eqBlock_any F E T _ gha hN ghac wha whac H (OwnI.ints GH.out).1 (OwnI.ints WH.out).1).mono ?_
    rintro q w7 ⟨rfl, g7⟩
    clear d0 d1 d2 d3 e0 e1 e2 e3
    (first | replace WH := Lib.hid (OwnI.grown WH.out g7) | skip)
    (first | replace WK := Lib.hid (OwnI.grown WK.out g7) | skip)
    (first | replace X1 := Lib.hid (OwnI.grown X1.out g7) | skip)
    (first | replace X2 := Lib.hid (OwnI.grown X2.out g7) | skip)
    (first | replace GH := Lib.hid (OwnI.grown GH.out g7) | skip)
    (first | replace GK := Lib.hid (OwnI.grown GK.out g7) | skip)
    (first | replace MH := Lib.hid (OwnI.grown MH.out g7) | skip)
    (first | replace MK := Lib.hid (OwnI.grown MK.out g7) | skip)
    (first | replace DW := Lib.hid (blkK g7 DW.out (by simp)) | skip)
    (first | replace DG := Lib.hid (blkK g7 DG.out (by simp)) | skip)
    replace G := Lib.hid (grown_trans G.out g7)
    clear g7
    go_wp2_with fail
    refine (eqIntS_any _ _ _ _ K _ _ _ K (OwnI.ints GK.out).1 (OwnI.ints WK.out).1).mono ?_
    rintro q w8 ⟨rfl, g8⟩
    rw [pb_true (p := K = K) rfl]
    replace g8 := drewN_grown g8 none
    (first | replace WH := Lib.hid (OwnI.grown WH.out g8) | skip)
    (first | replace WK := Lib.hid (OwnI.grown WK.out g8) | skip)
    (first | replace X1 := Lib.hid (OwnI.grown X1.out g8) | skip)
    (first | replace X2 := Lib.hid (OwnI.grown X2.out g8) | skip)
    (first | replace GH := Lib.hid (OwnI.grown GH.out g8) | skip)
    (first | replace GK := Lib.hid (OwnI.grown GK.out g8) | skip)
    (first | replace MH := Lib.hid (OwnI.grown MH.out g8) | skip)
    (first | replace MK := Lib.hid (OwnI.grown MK.out g8) | skip)
    (first | replace DW := Lib.hid (blkK g8 DW.out (by simp)) | skip)
    (first | replace DG := Lib.hid (blkK g8 DG.out (by simp)) | skip)
    replace G := Lib.hid (grown_trans G.out g8)
    clear g8
    clear hxg
    go_wp2_with fail
    refine (toIntS_any _ _ _ _ xs (HA.out.grown G.out) hxn).mono ?_
    rintro q w9 ⟨a9, c9, rfl, o9, g9⟩
    rw [HXL.out] at o9 ⊢
    (first | replace WH := Lib.hid (OwnI.grown WH.out g9) | skip)
    (first | replace WK := Lib.hid (OwnI.grown WK.out g9) | skip)
    (first | replace X1 := Lib.hid (OwnI.grown X1.out g9) | skip)
    (first | replace X2 := Lib.hid (OwnI.grown X2.out g9) | skip)
    (first | replace GH := Lib.hid (OwnI.grown GH.out g9) | skip)
    (first | replace GK := Lib.hid (OwnI.grown GK.out g9) | skip)
    (first | replace MH := Lib.hid (OwnI.grown MH.out g9) | skip)
    (first | replace MK := Lib.hid (OwnI.grown MK.out g9) | skip)
    (first | replace DW := Lib.hid (blkK g9 DW.out (by simp)) | skip)
    (first | replace DG := Lib.hid (blkK g9 DG.out (by simp)) | skip)
    replace G := Lib.hid (grown_trans G.out g9)
    clear g9
    have O9 := Lib.hid o9
    clear o9
    go_wp2_with fail
    refine (eqIntS_any _ _ _ _ xs _ _ _ xs (OwnI.ints X1.out).1 (OwnI.ints O9.out).1).mono ?_
    rintro q w10 ⟨rfl, g10⟩
    rw [pb_true (p := xs = xs) rfl]
    replace g10 := drewN_grown g10 none
    (first | replace WH := Lib.hid (OwnI.grown WH.out g10) | skip)
    (first | replace WK := Lib.hid (OwnI.grown WK.out g10) | skip)
    (first | replace X1 := Lib.hid (OwnI.grown X1.out g10) | skip)
    (first | replace X2 := Lib.hid (OwnI.grown X2.out g10) | skip)
    (first | replace GH := Lib.hid (OwnI.grown GH.out g10) | skip)
    (first | replace GK := Lib.hid (OwnI.grown GK.out g10) | skip)
    (first | replace MH := Lib.hid (OwnI.grown MH.out g10) | skip)
    (first | replace MK := Lib.hid (OwnI.grown MK.out g10) | skip)
    (first | replace DW := Lib.hid (blkK g10 DW.out (by simp)) | skip)
    (first | replace DG := Lib.hid (blkK g10 DG.out (by simp)) | skip)
    replace G := Lib.hid (grown_trans G.out g10)
    clear g10
    clear O9
    go_wp2_with fail
    refine (toIntS_any _ _ _ _ ys (HBB.out.grown G.out) hyn).mono ?_
    rintro q w11 ⟨a11, c11, rfl, o11, g11⟩
    rw [HYL.out] at o11 ⊢
    (first | replace WH := Lib.hid (OwnI.grown WH.out g11) | skip)
    (first | replace WK := Lib.hid (OwnI.grown WK.out g11) | skip)
    (first | replace X1 := Lib.hid (OwnI.grown X1.out g11) | skip)
    (first | replace X2 := Lib.hid (OwnI.grown X2.out g11) | skip)
    (first | replace GH := Lib.hid (OwnI.grown GH.out g11) | skip)
    (first | replace GK := Lib.hid (OwnI.grown GK.out g11) | skip)
    (first | replace MH := Lib.hid (OwnI.grown MH.out g11) | skip)
    (first | replace MK := Lib.hid (OwnI.grown MK.out g11) | skip)
    (first | replace DW := Lib.hid (blkK g11 DW.out (by simp)) | skip)
    (first | replace DG := Lib.hid (blkK g11 DG.out (by simp)) | skip)
    replace G := Lib.hid (grown_trans G.out g11)
    clear g11
    have O11 := Lib.hid o11
    clear o11
    go_wp2_with fail
    refine (eqIntS_any _ _ _ _ ys _ _ _ ys (OwnI.ints X2.out).1 (OwnI.ints O11.out).1).mono ?_
    rintro q w12 ⟨rfl, g12⟩
    rw [pb_true (p := ys = ys) rfl]
    replace g12 := drewN_grown g12 none
    (first | replace WH := Lib.hid (OwnI.grown WH.out g12) | skip)
    (first | replace WK := Lib.hid (OwnI.grown WK.out g12) | skip)
    (first | replace X1 := Lib.hid (OwnI.grown X1.out g12) | skip)
    (first | replace X2 := Lib.hid (OwnI.grown X2.out g12) | skip)
    (first | replace GH := Lib.hid (OwnI.grown GH.out g12) | skip)
    (first | replace GK := Lib.hid (OwnI.grown GK.out g12) | skip)
    (first | replace MH := Lib.hid (OwnI.grown MH.out g12) | skip)
    (first | replace MK := Lib.hid (OwnI.grown MK.out g12) | skip)
    (first | replace DW := Lib.hid (blkK g12 DW.out (by simp)) | skip)
    (first | replace DG := Lib.hid (blkK g12 DG.out (by simp)) | skip)
    replace G := Lib.hid (grown_trans G.out g12)
    clear g12
    clear O11
    go_wp2_with fail
    refine (markIntS_any _ _ _ _ _ xs 1 X1.out HXL.out (by omega) (by omega) (by omega)).mono ?_
    rintro q w13 ⟨rfl, g13, -⟩
    replace WH := Lib.hid (OwnI.other (M := xw + 1) WH.out g13 (.inl ⟨fun k e => by have := (bwh.out k e).2; omega, fun k e => (bx1.out k e).1⟩))
    replace WK := Lib.hid (OwnI.other (M := xw + 1) WK.out g13 (.inl ⟨fun k e => by have := (bwk.out k e).2; omega, fun k e => (bx1.out k e).1⟩))
    replace X2 := Lib.hid (OwnI.other (M := w4.heap.size) X2.out g13 (.inr ⟨fun k e => (bx2.out k e).1, fun k e => (bx1.out k e).2⟩))
    replace GH := Lib.hid (OwnI.other (M := w4.heap.size) GH.out g13 (.inr ⟨fun k e => by have := (bgh.out k e).1; have := S5.out; omega, fun k e => (bx1.out k e).2⟩))
    replace GK := Lib.hid (OwnI.other (M := w4.heap.size) GK.out g13 (.inr ⟨fun k e => by have := (bgk.out k e).1; have := S5.out; omega, fun k e => (bx1.out k e).2⟩))
    replace DW := Lib.hid (blkK g13 DW.out (fun e => by have := (bx1.out xw e.symm).1; omega))
    replace DG := Lib.hid (blkK g13 DG.out (fun e => by have := (bx1.out xg e.symm).2; have := S5.out; have := S6.out; omega))
    replace G := Lib.hid (grown_mark G.out X1.out g13 (by have := S3.out; have := GZ.out; omega))
    clear g13 X1
    go_wp2_with fail
    refine (markIntS_any _ _ _ _ _ ys (1 + (n : Int)) X2.out HYL.out (by omega) (by omega) (by omega)).mono ?_
    rintro q w14 ⟨rfl, g14, -⟩
    replace WH := Lib.hid (OwnI.other (M := w4.heap.size) WH.out g14 (.inl ⟨fun k e => by have := (bwh.out k e).2; have := S4.out; omega, fun k e => (bx2.out k e).1⟩))
    replace WK := Lib.hid (OwnI.other (M := w4.heap.size) WK.out g14 (.inl ⟨fun k e => by have := (bwk.out k e).2; have := S4.out; omega, fun k e => (bx2.out k e).1⟩))
    replace GH := Lib.hid (OwnI.other (M := w5.heap.size) GH.out g14 (.inr ⟨fun k e => (bgh.out k e).1, fun k e => (bx2.out k e).2⟩))
    replace GK := Lib.hid (OwnI.other (M := w5.heap.size) GK.out g14 (.inr ⟨fun k e => (bgk.out k e).1, fun k e => (bx2.out k e).2⟩))
    replace DW := Lib.hid (blkK g14 DW.out (fun e => by have := (bx2.out xw e.symm).1; have := S4.out; omega))
    replace DG := Lib.hid (blkK g14 DG.out (fun e => by have := (bx2.out xg e.symm).2; have := S6.out; omega))
    replace G := Lib.hid (grown_mark G.out X2.out g14 (by have := S4.out; have := GZ.out; omega))
    clear g14 X2
    have k0 : ¬ (1 + (n : Int) + (n' : Int)) < 0 := by omega
    have d0 := blkC DW.out 0 rfl
    have d1 := blkC DW.out 1 rfl
    have d2 := blkC DW.out 2 rfl
    have d3 := blkC DW.out 3 rfl
    have e0 := blkC DG.out 0 rfl
    have e1 := blkC DG.out 1 rfl
    have e2 := blkC DG.out 2 rfl
    have e3 := blkC DG.out 3 rfl
    go_wp2_with fail
    refine (eqBlock_any F E T _ gha hN ghac wha whac H (OwnI.ints GH.out).1 (OwnI.ints WH.out).1).mono ?_
    rintro q w15 ⟨rfl, g7⟩
    clear d0 d1 d2 d3 e0 e1 e2 e3
    (first | replace WH := Lib.hid (OwnI.grown WH.out g7) | skip)
    (first | replace WK := Lib.hid (OwnI.grown WK.out g7) | skip)
    (first | replace X1 := Lib.hid (OwnI.grown X1.out g7) | skip)
    (first | replace X2 := Lib.hid (OwnI.grown X2.out g7) | skip)
    (first | replace GH := Lib.hid (OwnI.grown GH.out g7) | skip)
    (first | replace GK := Lib.hid (OwnI.grown GK.out g7) | skip)
    (first | replace MH := Lib.hid (OwnI.grown MH.out g7) | skip)
    (first | replace MK := Lib.hid (OwnI.grown MK.out g7) | skip)
    (first | replace DW := Lib.hid (blkK g7 DW.out (by simp)) | skip)
    (first | replace DG := Lib.hid (blkK g7 DG.out (by simp)) | skip)
    replace G := Lib.hid (grown_trans G.out g7)
    clear g7
    go_wp2_with fail
    refine (eqIntS_any _ _ _ _ K _ _ _ K (OwnI.ints GK.out).1 (OwnI.ints WK.out).1).mono ?_
    rintro q w16 ⟨rfl, g8⟩
    rw [pb_true (p := K = K) rfl]
    replace g8 := drewN_grown g8 none
    (first | replace WH := Lib.hid (OwnI.grown WH.out g8) | skip)
    (first | replace WK := Lib.hid (OwnI.grown WK.out g8) | skip)
    (first | replace X1 := Lib.hid (OwnI.grown X1.out g8) | skip)
    (first | replace X2 := Lib.hid (OwnI.grown X2.out g8) | skip)
    (first | replace GH := Lib.hid (OwnI.grown GH.out g8) | skip)
    (first | replace GK := Lib.hid (OwnI.grown GK.out g8) | skip)
    (first | replace MH := Lib.hid (OwnI.grown MH.out g8) | skip)
    (first | replace MK := Lib.hid (OwnI.grown MK.out g8) | skip)
    (first | replace DW := Lib.hid (blkK g8 DW.out (by simp)) | skip)
    (first | replace DG := Lib.hid (blkK g8 DG.out (by simp)) | skip)
    replace G := Lib.hid (grown_trans G.out g8)
    clear g8
    have e0 := blkC DG.out 0 rfl
    have e1 := blkC DG.out 1 rfl
    have e2 := blkC DG.out 2 rfl
    have e3 := blkC DG.out 3 rfl
    go_wp2_with fail
    refine (markBlock_any _ F E T 1 _ _ _ _ H GH.out HHN.out (by omega) (by omega) (by omega)).mono ?_
    rintro q w17 ⟨rfl, g17, mh⟩
    replace WH := Lib.hid (OwnI.other (M := w5.heap.size) WH.out g17 (.inl ⟨fun k e => by have := (bwh.out k e).2; have := S4.out; have := S5.out; omega, fun k e => (bgh.out k e).1⟩))
    replace WK := Lib.hid (OwnI.other (M := w5.heap.size) WK.out g17 (.inl ⟨fun k e => by have := (bwk.out k e).2; have := S4.out; have := S5.out; omega, fun k e => (bgh.out k e).1⟩))
    replace GK := Lib.hid (OwnI.other (M := M6) GK.out g17 (.inr ⟨fun k e => (bgk.out k e).2.2, fun k e => (bgh.out k e).2.2⟩))
    replace DW := Lib.hid (blkK g17 DW.out (fun e => by have := (bgh.out xw e.symm).1; have := S4.out; have := S5.out; omega))
    replace DG := Lib.hid (blkK g17 DG.out (fun e => by have := (bgh.out xg e.symm).2.1; omega))
    replace G := Lib.hid (grown_mark G.out GH.out g17 (by have := S4.out; have := S5.out; have := GZ.out; omega))
    have MH := Lib.hid mh
    clear g17 GH mh e0 e1 e2 e3
    go_wp2_with fail
    refine (markIntS_any _ _ _ _ _ K (1 + (hN : Int)) GK.out HKN.out (by omega) (by omega) (by omega)).mono ?_
    rintro q w18 ⟨rfl, g18, mk⟩
    replace WH := Lib.hid (OwnI.other (M := w5.heap.size) WH.out g18 (.inl ⟨fun k e => by have := (bwh.out k e).2; have := S4.out; have := S5.out; omega, fun k e => (bgk.out k e).1⟩))
    replace WK := Lib.hid (OwnI.other (M := w5.heap.size) WK.out g18 (.inl ⟨fun k e => by have := (bwk.out k e).2; have := S4.out; have := S5.out; omega, fun k e => (bgk.out k e).1⟩))
    replace MH := Lib.hid (OwnI.other (M := M6) MH.out g18 (.inl ⟨fun k e => (bgh.out k e).2.2, fun k e => (bgk.out k e).2.2⟩))
    replace DW := Lib.hid (blkK g18 DW.out (fun e => by have := (bgk.out xw e.symm).1; have := S4.out; have := S5.out; omega))
    replace DG := Lib.hid (blkK g18 DG.out (fun e => by have := (bgk.out xg e.symm).2.1; omega))
    replace G := Lib.hid (grown_mark G.out GK.out g18 (by have := S4.out; have := S5.out; have := GZ.out; omega))
    have MK := Lib.hid mk
    clear g18 GK mk
    have e0 := blkC DG.out 0 rfl
    have e1 := blkC DG.out 1 rfl
    have e2 := blkC DG.out 2 rfl
    have e3 := blkC DG.out 3 rfl
    go_wp2_with fail
    refine (heldBlock_any F E T 1 _ _ _ _ (OwnI.ints MH.out).1 (by omega) (by omega) (by omega)).mono ?_
    rintro q w19 ⟨rfl, g19⟩
    clear e0 e1 e2 e3
    (first | replace WH := Lib.hid (OwnI.grown WH.out g19) | skip)
    (first | replace WK := Lib.hid (OwnI.grown WK.out g19) | skip)
    (first | replace X1 := Lib.hid (OwnI.grown X1.out g19) | skip)
    (first | replace X2 := Lib.hid (OwnI.grown X2.out g19) | skip)
    (first | replace GH := Lib.hid (OwnI.grown GH.out g19) | skip)
    (first | replace GK := Lib.hid (OwnI.grown GK.out g19) | skip)
    (first | replace MH := Lib.hid (OwnI.grown MH.out g19) | skip)
    (first | replace MK := Lib.hid (OwnI.grown MK.out g19) | skip)
    (first | replace DW := Lib.hid (blkK g19 DW.out (by simp)) | skip)
    (first | replace DG := Lib.hid (blkK g19 DG.out (by simp)) | skip)
    replace G := Lib.hid (grown_trans G.out g19)
    clear g19
    go_wp2_with fail
    refine (heldIntS_any _ _ _ _ (1 + (hN : Int)) (OwnI.ints MK.out).1 (by omega) (by omega) (by omega)).mono ?_
    rintro q w' ⟨rfl, rfl⟩
    go_wp2_with fail
    refine (toIntS_any _ _ _ _ xs (HA.out.grown G.out) hxn).mono ?_
    rintro q w21 ⟨a1, c1, rfl, o1, g21⟩
    rw [HXL.out] at o1 ⊢
    have O1 := Lib.hid o1
    (first | replace WH := Lib.hid (OwnI.grown WH.out g21) | skip)
    (first | replace WK := Lib.hid (OwnI.grown WK.out g21) | skip)
    (first | replace X1 := Lib.hid (OwnI.grown X1.out g21) | skip)
    (first | replace X2 := Lib.hid (OwnI.grown X2.out g21) | skip)
    (first | replace GH := Lib.hid (OwnI.grown GH.out g21) | skip)
    (first | replace GK := Lib.hid (OwnI.grown GK.out g21) | skip)
    (first | replace MH := Lib.hid (OwnI.grown MH.out g21) | skip)
    (first | replace MK := Lib.hid (OwnI.grown MK.out g21) | skip)
    (first | replace DW := Lib.hid (blkK g21 DW.out (by simp)) | skip)
    (first | replace DG := Lib.hid (blkK g21 DG.out (by simp)) | skip)
    replace G := Lib.hid (grown_trans G.out g21)
    clear g21
    clear o1
    go_wp2_with fail
    refine (toIntS_any _ _ _ _ ys (HBB.out.grown G.out) hyn).mono ?_
    rintro q w22 ⟨a2, c2, rfl, o2, g22⟩
    rw [HYL.out] at o2 ⊢
    have O2 := Lib.hid o2
    replace O1 := Lib.hid (OwnI.grown O1.out g22)
    (first | replace WH := Lib.hid (OwnI.grown WH.out g22) | skip)
    (first | replace WK := Lib.hid (OwnI.grown WK.out g22) | skip)
    (first | replace X1 := Lib.hid (OwnI.grown X1.out g22) | skip)
    (first | replace X2 := Lib.hid (OwnI.grown X2.out g22) | skip)
    (first | replace GH := Lib.hid (OwnI.grown GH.out g22) | skip)
    (first | replace GK := Lib.hid (OwnI.grown GK.out g22) | skip)
    (first | replace MH := Lib.hid (OwnI.grown MH.out g22) | skip)
    (first | replace MK := Lib.hid (OwnI.grown MK.out g22) | skip)
    (first | replace DW := Lib.hid (blkK g22 DW.out (by simp)) | skip)
    (first | replace DG := Lib.hid (blkK g22 DG.out (by simp)) | skip)
    replace G := Lib.hid (grown_trans G.out g22)
    clear g22
    clear o2
    go_wp2_with fail
    refine (replyMake_any s _ _ _ _ xs _ _ _ ys r (OwnI.ints O1.out).1 (OwnI.ints O2.out).1).mono ?_
    rintro q w23 ⟨hha, hhac, hka, hkac, M23, rfl, oh, ok, g23, -, -⟩
    rw [HP.out] at oh ok ⊢
    simp only [] at oh ok ⊢
    rw [HHN.out] at oh ⊢
    rw [HKN.out] at ok ⊢
    rw [HB.out]
    (first | replace WH := Lib.hid (OwnI.grown WH.out g23) | skip)
    (first | replace WK := Lib.hid (OwnI.grown WK.out g23) | skip)
    (first | replace X1 := Lib.hid (OwnI.grown X1.out g23) | skip)
    (first | replace X2 := Lib.hid (OwnI.grown X2.out g23) | skip)
    (first | replace GH := Lib.hid (OwnI.grown GH.out g23) | skip)
    (first | replace GK := Lib.hid (OwnI.grown GK.out g23) | skip)
    (first | replace MH := Lib.hid (OwnI.grown MH.out g23) | skip)
    (first | replace MK := Lib.hid (OwnI.grown MK.out g23) | skip)
    (first | replace DW := Lib.hid (blkK g23 DW.out (by simp)) | skip)
    (first | replace DG := Lib.hid (blkK g23 DG.out (by simp)) | skip)
    replace G := Lib.hid (grown_trans G.out g23)
    clear g23
    have ga := grown_alloc w23 (.cells #[.int .i64 F, .int .i64 E, .slice hha hN hhac, .int .i64 T] 27) none
    have ZH := Lib.hid (OwnI.grown oh ga)
    have ZK := Lib.hid (OwnI.grown ok ga)
    have DZ := Lib.hid (heap_alloc_new w23 (.cells #[.int .i64 F, .int .i64 E, .slice hha hN hhac, .int .i64 T] 27))
    obtain ⟨xz, hxz⟩ : ∃ x, w23.heap.size = x := ⟨_, rfl⟩
    rw [hxz] at DZ
    clear oh ok O1 O2
    (first | replace WH := Lib.hid (OwnI.grown WH.out ga) | skip)
    (first | replace WK := Lib.hid (OwnI.grown WK.out ga) | skip)
    (first | replace X1 := Lib.hid (OwnI.grown X1.out ga) | skip)
    (first | replace X2 := Lib.hid (OwnI.grown X2.out ga) | skip)
    (first | replace GH := Lib.hid (OwnI.grown GH.out ga) | skip)
    (first | replace GK := Lib.hid (OwnI.grown GK.out ga) | skip)
    (first | replace MH := Lib.hid (OwnI.grown MH.out ga) | skip)
    (first | replace MK := Lib.hid (OwnI.grown MK.out ga) | skip)
    (first | replace DW := Lib.hid (blkK ga DW.out (by simp)) | skip)
    (first | replace DG := Lib.hid (blkK ga DG.out (by simp)) | skip)
    replace G := Lib.hid (grown_trans G.out ga)
    clear ga
    have d0 := blkC DW.out 0 rfl
    have d1 := blkC DW.out 1 rfl
    have d2 := blkC DW.out 2 rfl
    have d3 := blkC DW.out 3 rfl
    have e0 := blkC DZ.out 0 rfl
    have e1 := blkC DZ.out 1 rfl
    have e2 := blkC DZ.out 2 rfl
    have e3 := blkC DZ.out 3 rfl
    go_wp2_with fail
    clear hxz
    refine (eqBlock_any F E T _ hha hN hhac wha whac H (OwnI.ints ZH.out).1 (OwnI.ints WH.out).1).mono ?_
    rintro q w24 ⟨rfl, g24⟩
    clear d0 d1 d2 d3 e0 e1 e2 e3
    replace ZK := Lib.hid (OwnI.grown ZK.out g24)
    (first | replace WH := Lib.hid (OwnI.grown WH.out g24) | skip)
    (first | replace WK := Lib.hid (OwnI.grown WK.out g24) | skip)
    (first | replace X1 := Lib.hid (OwnI.grown X1.out g24) | skip)
    (first | replace X2 := Lib.hid (OwnI.grown X2.out g24) | skip)
    (first | replace GH := Lib.hid (OwnI.grown GH.out g24) | skip)
    (first | replace GK := Lib.hid (OwnI.grown GK.out g24) | skip)
    (first | replace MH := Lib.hid (OwnI.grown MH.out g24) | skip)
    (first | replace MK := Lib.hid (OwnI.grown MK.out g24) | skip)
    (first | replace DW := Lib.hid (blkK g24 DW.out (by simp)) | skip)
    (first | replace DG := Lib.hid (blkK g24 DG.out (by simp)) | skip)
    replace G := Lib.hid (grown_trans G.out g24)
    clear g24
    go_wp2_with fail
    refine (eqIntS_any _ _ _ _ K _ _ _ K (OwnI.ints ZK.out).1 (OwnI.ints WK.out).1).mono ?_
    rintro q w25 ⟨rfl, g25⟩
    rw [pb_true (p := K = K) rfl]
    replace g25 := drewN_grown g25 none
    (first | replace WH := Lib.hid (OwnI.grown WH.out g25) | skip)
    (first | replace WK := Lib.hid (OwnI.grown WK.out g25) | skip)
    (first | replace X1 := Lib.hid (OwnI.grown X1.out g25) | skip)
    (first | replace X2 := Lib.hid (OwnI.grown X2.out g25) | skip)
    (first | replace GH := Lib.hid (OwnI.grown GH.out g25) | skip)
    (first | replace GK := Lib.hid (OwnI.grown GK.out g25) | skip)
    (first | replace MH := Lib.hid (OwnI.grown MH.out g25) | skip)
    (first | replace MK := Lib.hid (OwnI.grown MK.out g25) | skip)
    (first | replace DW := Lib.hid (blkK g25 DW.out (by simp)) | skip)
    (first | replace DG := Lib.hid (blkK g25 DG.out (by simp)) | skip)
    replace G := Lib.hid (grown_trans G.out g25)
    clear g25
    have e0 := blkC DG.out 0 rfl
    have e1 := blkC DG.out 1 rfl
    have e2 := blkC DG.out 2 rfl
    have e3 := blkC DG.out 3 rfl
    go_wp2_with fail
    refine (heldBlock_any F E T 1 _ _ _ _ (OwnI.ints MH.out).1 (by omega) (by omega) (by omega)).mono ?_
    rintro q w26 ⟨rfl, g26⟩
    clear e0 e1 e2 e3
    (first | replace WH := Lib.hid (OwnI.grown WH.out g26) | skip)
    (first | replace WK := Lib.hid (OwnI.grown WK.out g26) | skip)
    (first | replace X1 := Lib.hid (OwnI.grown X1.out g26) | skip)
    (first | replace X2 := Lib.hid (OwnI.grown X2.out g26) | skip)
    (first | replace GH := Lib.hid (OwnI.grown GH.out g26) | skip)
    (first | replace GK := Lib.hid (OwnI.grown GK.out g26) | skip)
    (first | replace MH := Lib.hid (OwnI.grown MH.out g26) | skip)
    (first | replace MK := Lib.hid (OwnI.grown MK.out g26) | skip)
    (first | replace DW := Lib.hid (blkK g26 DW.out (by simp)) | skip)
    (first | replace DG := Lib.hid (blkK g26 DG.out (by simp)) | skip)
    replace G := Lib.hid (grown_trans G.out g26)
    clear g26
    go_wp2_with fail
    refine (heldIntS_any _ _ _ _ (1 + (hN : Int)) (OwnI.ints MK.out).1 (by omega) (by omega) (by omega)).mono ?_
    rintro q w' ⟨rfl, rfl⟩
    go_wp2_with fail
    go_ret
    exact ⟨rfl, G.out⟩
end Go.Proofs.Ytedpkhboepahgaa
