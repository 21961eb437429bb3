/- The walk of FnReplyAlike. -/
import Derived.Test.YtedpkhboepahgaaDrawRF
import Derived.Test.YtedpkhboepahgaaBlkW
import Derived.Test.YtedpkhboepahgaaRfS
import Derived.WalkKit
import Derived.Lib.Hide
import Derived.Deep.QuietTactic
import Derived.BigQuiet
namespace Go.Proofs.Ytedpkhboepahgaa
open Go.RowKit
theorem samePacket_any (e t : Int) (w : World) (ha : Option Addr) (n hc : Nat) (ba : Option Addr) (m bc : Nat) (hb : Option Addr) (hd : Nat) (bb : Option Addr) (bd : Nat) (H B : List Int) (h : IntsAt w ha n hc H) (k : IntsAt w ba m bc B) (h' : IntsAt w hb n hd H) (k' : IntsAt w bb m bd B) :
    Calls Try.prog 29 #[.agg #[.int .i64 e, .slice ha n hc, .int .i64 t, .slice ba m bc], .agg #[.int .i64 e, .slice hb n hd, .int .i64 t, .slice bb m bd]] w fun q w' => q = .returned (.bool true) ∧ w.grownBy w' none := by
  have G := Lib.hid (show w.grownBy ((w.alloc (.cells #[.int .i64 e, .slice ha n hc, .int .i64 t, .slice ba m bc] 35)).alloc (.cells #[.int .i64 e, .slice hb n hd, .int .i64 t, .slice bb m bd] 35)) none from gAlloc (grown_alloc w _ none) _)
  have I := Lib.hid (h.grown G.out)
  have J := Lib.hid (h'.grown G.out)
  have K := Lib.hid (k.grown G.out)
  have L := Lib.hid (k'.grown G.out)
  have D1 := Lib.hid (show ((w.alloc (.cells #[.int .i64 e, .slice ha n hc, .int .i64 t, .slice ba m bc] 35)).alloc (.cells #[.int .i64 e, .slice hb n hd, .int .i64 t, .slice bb m bd] 35)).heap[w.heap.size]? = some (.cells #[.int .i64 e, .slice ha n hc, .int .i64 t, .slice ba m bc] 35) from blkA (heap_alloc_new w _))
  have D2 := Lib.hid (show ((w.alloc (.cells #[.int .i64 e, .slice ha n hc, .int .i64 t, .slice ba m bc] 35)).alloc (.cells #[.int .i64 e, .slice hb n hd, .int .i64 t, .slice bb m bd] 35)).heap[w.heap.size + 1]? = some (.cells #[.int .i64 e, .slice hb n hd, .int .i64 t, .slice bb m bd] 35) from heap_next (by simp))
  have d0 := blkC D1.out 0 rfl
  have d1 := blkC D1.out 1 rfl
  have d2 := blkC D1.out 2 rfl
  have d3 := blkC D1.out 3 rfl
  have e0 := blkC D2.out 0 rfl
  have e1 := blkC D2.out 1 rfl
  have e2 := blkC D2.out 2 rfl
  have e3 := blkC D2.out 3 rfl
  clear h h' k k'
  go_enter Try.func29, Try.ntmps29
  go_wp2_with fail
  refine (sameInts_any _ _ _ _ H _ _ _ H I.out J.out).mono ?_
  rintro e w7 ⟨rfl, g7⟩
  rw [pb_true (p := H = H) rfl]
  replace g7 := drewN_grown g7 none
  have G7 := Lib.hid (grown_trans G.out g7)
  have K7 := Lib.hid (K.out.grown g7)
  have L7 := Lib.hid (L.out.grown g7)
  have D17 := Lib.hid (blkK g7 D1.out (by simp))
  have D27 := Lib.hid (blkK g7 D2.out (by simp))
  clear g7 d0 d1 d2 d3 e0 e1 e2 e3
  have d3 := blkC D17.out 3 rfl
  have e3 := blkC D27.out 3 rfl
  go_wp2_with fail
  refine (sameInts_any _ _ _ _ B _ _ _ B K7.out L7.out).mono ?_
  rintro e w8 ⟨rfl, g8⟩
  rw [pb_true (p := B = B) rfl]
  replace g8 := drewN_grown g8 none
  have GG := Lib.hid (grown_trans G7.out g8)
  clear g8
  go_wp2_with fail
  go_ret
  exact ⟨rfl, GG.out⟩
set_option maxRecDepth 8000 in
set_option maxHeartbeats 2000000 in
theorem fnReplyAlike_walk (ao : Option Addr) (n cap : Nat) (w : World) (h1 : CodeAt w ao n cap) :
    Calls Try.prog 7 #[.slice ao n cap] w fun e w' => e = .returned (.bool true) ∧ w.grownBy w' none := by
  by_cases a : (1048576 : Int) < n
  · go_enter Try.func7, Try.ntmps7
    go_wp2
    go_ret
    exact ⟨rfl, grown_refl _ _⟩
  · go_enter Try.func7, Try.ntmps7
    go_wp2_with fail
    refine (drawReplyFill_any _ _ _ _ h1).mono ?_
    rintro q w1 ⟨f, el, t, H, l, ha, hn, hc, la, ln, lc, rfl, i1, j1, hs, g1⟩
    have ga := grown_alloc w1 (.cells #[.int .i64 f, .int .i64 el, .slice ha hn hc, .int .i64 t] 27) none
    have G1 := Lib.hid (grown_trans g1 ga)
    have I1 := Lib.hid (i1.grown ga)
    have J1 := Lib.hid (j1.grown ga)
    have D1 := Lib.hid (heap_alloc_new w1 (.cells #[.int .i64 f, .int .i64 el, .slice ha hn hc, .int .i64 t] 27))
    obtain ⟨xb, hxb⟩ : ∃ x, w1.heap.size = x := ⟨_, rfl⟩
    rw [hxb] at D1
    have d0 := blkC D1.out 0 rfl
    have d1 := blkC D1.out 1 rfl
    have d2 := blkC D1.out 2 rfl
    have d3 := blkC D1.out 3 rfl
    clear g1 ga i1 j1
    go_wp2_with fail
    refine (replyFill_any f el t _ ha hn hc la ln lc H l I1.out J1.out hs).mono ?_
    rintro q w2 ⟨xa, xc, ya, yc, rfl, ox, oy, g2⟩
    clear hxb d0 d1 d2 d3
    obtain ⟨P, hP⟩ : ∃ P, fillR f el H t l = P := ⟨_, rfl⟩
    have HP := Lib.hid hP
    rw [hP] at ox oy ⊢
    obtain ⟨E, X, T, Y⟩ := P
    simp only [] at ox oy ⊢
    obtain ⟨xN, hXN⟩ : ∃ N, X.length = N := ⟨_, rfl⟩
    obtain ⟨yN, hYN⟩ : ∃ N, Y.length = N := ⟨_, rfl⟩
    rw [hXN] at ox ⊢
    rw [hYN] at oy ⊢
    have HXN := Lib.hid hXN
    have HYN := Lib.hid hYN
    obtain ⟨b, hb⟩ : ∃ b, fillB f el H t l = b := ⟨_, rfl⟩
    rw [hb]
    have HB := Lib.hid hb
    have bb : (b != b) = false := by cases b <;> rfl
    have bb2 : (b == b) = true := by cases b <;> rfl
    have ga := grown_alloc w2 (.cells #[.int .i64 E, .slice xa xN xc, .int .i64 T, .slice ya yN yc] 35) none
    have G2 := Lib.hid (grown_trans G1.out (grown_trans g2 ga))
    have I2 := Lib.hid (I1.out.grown (grown_trans g2 ga))
    have J2 := Lib.hid (J1.out.grown (grown_trans g2 ga))
    have X2 := Lib.hid (OwnI.grown ox ga).ints.1
    have Y2 := Lib.hid (OwnI.grown oy ga).ints.1
    have D2 := Lib.hid (blkK (grown_trans g2 ga) D1.out (by simp))
    have Q2 := Lib.hid (heap_alloc_new w2 (.cells #[.int .i64 E, .slice xa xN xc, .int .i64 T, .slice ya yN yc] 35))
    obtain ⟨xq, hxq⟩ : ∃ x, w2.heap.size = x := ⟨_, rfl⟩
    rw [hxq] at Q2
    have d0 := blkC D2.out 0 rfl
    have d1 := blkC D2.out 1 rfl
    have d2 := blkC D2.out 2 rfl
    have d3 := blkC D2.out 3 rfl
    clear g2 ga ox oy hP hXN hYN hb I1 J1 G1 D1
    go_wp2_with fail
    refine (replyFillS_any f el t _ ha hn hc la ln lc H l I2.out J2.out hs).mono ?_
    rintro q w3 ⟨xa', xc', ya', yc', rfl, ox, oy, g3⟩
    rw [HP.out] at ox oy ⊢
    simp only [] at ox oy ⊢
    rw [HXN.out] at ox ⊢
    rw [HYN.out] at oy ⊢
    rw [HB.out]
    clear hxq d0 d1 d2 d3
    have ga := grown_alloc w3 (.cells #[.int .i64 E, .slice xa' xN xc', .int .i64 T, .slice ya' yN yc'] 35) none
    have gg := grown_trans g3 ga
    have G3 := Lib.hid (grown_trans G2.out gg)
    have I3 := Lib.hid (I2.out.grown gg)
    have J3 := Lib.hid (J2.out.grown gg)
    have X3 := Lib.hid (X2.out.grown gg)
    have Y3 := Lib.hid (Y2.out.grown gg)
    have X3' := Lib.hid (OwnI.grown ox ga).ints.1
    have Y3' := Lib.hid (OwnI.grown oy ga).ints.1
    have D3 := Lib.hid (blkK gg D2.out (by simp))
    have Q3 := Lib.hid (blkK gg Q2.out (by simp))
    have Q3' := Lib.hid (heap_alloc_new w3 (.cells #[.int .i64 E, .slice xa' xN xc', .int .i64 T, .slice ya' yN yc'] 35))
    obtain ⟨xr, hxr⟩ : ∃ x, w3.heap.size = x := ⟨_, rfl⟩
    rw [hxr] at Q3'
    have d0 := blkC Q3.out 0 rfl
    have d1 := blkC Q3.out 1 rfl
    have d2 := blkC Q3.out 2 rfl
    have d3 := blkC Q3.out 3 rfl
    have e0 := blkC Q3'.out 0 rfl
    have e1 := blkC Q3'.out 1 rfl
    have e2 := blkC Q3'.out 2 rfl
    have e3 := blkC Q3'.out 3 rfl
    clear ox oy g3 ga gg I2 J2 X2 Y2 D2 Q2 G2
    go_wp2_with fail
    refine (samePacket_any E T _ xa xN xc ya yN yc xa' xc' ya' yc' X Y X3.out Y3.out X3'.out Y3'.out).mono ?_
    rintro q w4 ⟨rfl, g4⟩
    have G4 := Lib.hid (grown_trans G3.out g4)
    have I4 := Lib.hid (I3.out.grown g4)
    have J4 := Lib.hid (J3.out.grown g4)
    have X4 := Lib.hid (X3.out.grown g4)
    have Y4 := Lib.hid (Y3.out.grown g4)
    have X4' := Lib.hid (X3'.out.grown g4)
    have Y4' := Lib.hid (Y3'.out.grown g4)
    have D4 := Lib.hid (blkK g4 D3.out (by simp))
    have Q4 := Lib.hid (blkK g4 Q3.out (by simp))
    have Q4' := Lib.hid (blkK g4 Q3'.out (by simp))
    clear hxr d0 d1 d2 d3 e0 e1 e2 e3 g4 G3 I3 J3 X3 Y3 X3' Y3' D3 Q3 Q3'
    have d0 := blkC Q4.out 0 rfl
    have d1 := blkC Q4.out 1 rfl
    have d2 := blkC Q4.out 2 rfl
    have d3 := blkC Q4.out 3 rfl
    cases b with
    | false =>
      have e0 := blkC Q4'.out 0 rfl
      have e1 := blkC Q4'.out 1 rfl
      have e2 := blkC Q4'.out 2 rfl
      have e3 := blkC Q4'.out 3 rfl
      go_wp2_with fail
      refine (samePacket_any E T _ xa xN xc ya yN yc xa' xc' ya' yc' X Y X4.out Y4.out X4'.out Y4'.out).mono ?_
      rintro q w5 ⟨rfl, g5⟩
      have G5 := Lib.hid (grown_trans G4.out g5)
      clear g5
      go_wp2_with fail
      go_ret
      exact ⟨rfl, G5.out⟩
    | true =>
      have A := Lib.hid (show (el, H, t, packR l) = (E, X, T, Y) by rw [← fillR_yes HB.out]; exact HP.out)
      have AX := Lib.hid (show H = X from congrArg (fun q => q.2.1) A.out)
      have AT := Lib.hid (show t = T from congrArg (fun q => q.2.2.1) A.out)
      have AY := Lib.hid (show packR l = Y from congrArg (fun q => q.2.2.2) A.out)
      have AE := Lib.hid (show el = E from congrArg (fun q => q.1) A.out)
      have FB := HB.out
      simp only [fillB, Bool.and_eq_true] at FB
      have PK := Lib.hid FB.1.1
      have VV := Lib.hid (show vB E X T Y = true by rw [← AE.out, ← AX.out, ← AT.out, ← AY.out]; exact FB.2)
      clear FB
      go_wp2_with fail
      refine (letterPack_any _ _ _ _ l J4.out).mono ?_
      rintro q w5 ⟨a5, c5, rfl, o5, g5⟩
      rw [AY.out, HYN.out] at o5 ⊢
      rw [PK.out]
      have G5 := Lib.hid (grown_trans G4.out g5)
      have I5 := Lib.hid (show IntsAt w5 ha hn hc X by rw [← AX.out]; exact I4.out.grown g5)
      have hnx : hn = xN := by have := I5.out.len; have := HXN.out; omega
      have X5 := Lib.hid (X4.out.grown g5)
      have Y5 := Lib.hid (Y4.out.grown g5)
      have Z5 := Lib.hid (OwnI.ints o5).1
      have D5 := Lib.hid (blkK g5 D4.out (by simp))
      have Q5 := Lib.hid (blkK g5 Q4.out (by simp))
      clear g5 o5 d0 d1 d2 d3
      have d0 := blkC Q5.out 0 rfl
      have d1 := blkC Q5.out 1 rfl
      have d2 := blkC Q5.out 2 rfl
      have d3 := blkC Q5.out 3 rfl
      go_wp2_with fail
      refine (sameInts_any _ _ _ _ Y _ _ _ Y Y5.out Z5.out).mono ?_
      rintro e w6 ⟨rfl, g6⟩
      rw [pb_true (p := Y = Y) rfl]
      replace g6 := drewN_grown g6 none
      have G6 := Lib.hid (grown_trans G5.out g6)
      have I6 := Lib.hid (I5.out.grown g6)
      have X6 := Lib.hid (X5.out.grown g6)
      have Y6 := Lib.hid (Y5.out.grown g6)
      have D6 := Lib.hid (blkK g6 D5.out (by simp))
      have Q6 := Lib.hid (blkK g6 Q5.out (by simp))
      clear g6 d0 d1 d2 d3
      have d0 := blkC Q6.out 0 rfl
      have d1 := blkC Q6.out 1 rfl
      have d2 := blkC Q6.out 2 rfl
      have d3 := blkC Q6.out 3 rfl
      go_wp2_with fail
      refine (packetValid_any E T _ xa xN xc ya yN yc X Y X6.out Y6.out).mono ?_
      rintro q w7 ⟨rfl, g7⟩
      rw [VV.out]
      have G7 := Lib.hid (grown_trans G6.out g7)
      have I7 := Lib.hid (I6.out.grown g7)
      have X7 := Lib.hid (X6.out.grown g7)
      have D7 := Lib.hid (blkK g7 D6.out (by simp))
      have Q7 := Lib.hid (blkK g7 Q6.out (by simp))
      clear g7 d0 d1 d2 d3
      have d1 := blkC Q7.out 1 rfl
      have d2 := blkC Q7.out 2 rfl
      have e2 := blkC D7.out 2 rfl
      have e3 := blkC D7.out 3 rfl
      rw [AT.out] at e3
      rw [hnx] at e2
      have I7' := Lib.hid (show IntsAt w7 ha xN hc X by rw [← hnx]; exact I7.out)
      clear hnx
      go_wp2_with fail
      refine (sameInts_any _ _ _ _ X _ _ _ X X7.out I7'.out).mono ?_
      rintro e w8 ⟨rfl, g8⟩
      rw [pb_true (p := X = X) rfl]
      replace g8 := drewN_grown g8 none
      have G8 := Lib.hid (grown_trans G7.out g8)
      have D8 := Lib.hid (blkK g8 D7.out (by simp))
      have Q8 := Lib.hid (blkK g8 Q7.out (by simp))
      clear g8 d1 d2 e2 e3
      have d2 := blkC Q8.out 2 rfl
      have e3 := blkC D8.out 3 rfl
      rw [AT.out] at e3
      go_wp2_with fail
      go_ret
      exact ⟨rfl, G8.out⟩
end Go.Proofs.Ytedpkhboepahgaa
