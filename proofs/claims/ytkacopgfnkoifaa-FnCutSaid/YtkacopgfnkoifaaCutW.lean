/- The walks of FnCutLength, FnCutLong, FnRepairNone, FnCut. -/
import Derived.Test.YtkacopgfnkoifaaSameT
import Derived.Test.YtkacopgfnkoifaaPieceL
import Derived.Test.YtkacopgfnkoifaaRep
import Derived.Test.YtkacopgfnkoifaaJoin
import Derived.WalkKit
import Derived.Lib.Hide
import Derived.Deep.QuietTactic
import Derived.BigQuiet
namespace Go.Proofs.Ytkacopgfnkoifaa
open Go.RowKit
set_option maxHeartbeats 2000000 in
theorem fnRepairNone_walk (ao : Option Addr) (n cap : Nat) (w : World) (h1 : CodeAt w ao n cap) :
    Calls Try.prog 7 #[.slice ao n cap] w fun e w' => e = .returned (.bool true) ∧ w.grownBy w' none := by
  by_cases a : (1048576 : Int) < n
  · go_enter Try.func7, Try.ntmps7
    go_wp2
    go_ret
    exact ⟨rfl, grown_refl _ _⟩
  · go_enter Try.func7, Try.ntmps7
    go_wp2_with fail
    refine (drawPiecesCut_any _ _ _ _ h1).mono ?_
    rintro e w1 ⟨xs, a1, c1, l1, rfl, t1, g1⟩
    obtain ⟨N, hN⟩ : ∃ N, xs.length = N := ⟨_, rfl⟩
    rw [hN] at t1 l1 ⊢
    go_wp2_with fail
    refine (piecesCut_any _ _ _ _ xs t1 (by omega)).mono ?_
    rintro e w2 ⟨v2, rfl, o2, g2⟩
    obtain ⟨a2, c2, rfl, t2⟩ := OwnR.shape o2
    go_wp2_with fail
    refine (piecesCutS_any _ _ _ _ xs (t1.grown g2) (by omega)).mono ?_
    rintro e w3 ⟨v3, rfl, o3, g3⟩
    obtain ⟨a3, c3, rfl, t3⟩ := OwnR.shape o3
    obtain ⟨K, hK⟩ : ∃ K, (cutL xs).length = K := ⟨_, rfl⟩
    rw [hK] at t2 t3 ⊢
    have HK := Lib.hid hK
    have HN := Lib.hid hN
    have T1 := Lib.hid ((t1.grown g2).grown g3)
    have T2 := Lib.hid (t2.grown g3)
    have T3 := Lib.hid t3
    have G3 := Lib.hid (grown_trans g1 (grown_trans g2 g3))
    clear o2 o3 t1 t2 t3 g1 g2 g3 hK hN
    by_cases hK0 : K = 0
    case pos =>
      subst hK0
      go_wp2_with fail
      refine (samePieces_same _ _ _ _ _ _ _ T2.out T3.out).mono ?_
      rintro e w4 ⟨rfl, d, rfl⟩
      go_wp2_with fail
      refine (samePieces_same _ _ _ _ _ _ _ (T2.out.grown (grown_drewN _ d _)) (T3.out.grown (grown_drewN _ d _))).mono ?_
      rintro e w5 ⟨rfl, d2, rfl⟩
      go_wp2_with fail
      go_ret
      exact ⟨rfl, gDrewN G3.out _⟩
    case neg =>
      have HP : CutP xs := by
        refine Classical.byContradiction fun e => hK0 ?_
        rw [← HK.out, cutL_no e]; rfl
      have HC := Lib.hid HP
      have HE := Lib.hid (cutL_yes HP)
      have hKc : K = cutC N := by rw [← HK.out, HE.out, chunks_len, HN.out]
      have hK5 : K ≤ 5 := by rw [hKc, ← HN.out]; exact HP.2
      have hKN : (N + 3) / 3 = K := hKc.symm
      have HKC := Lib.hid hKc
      have k0 : ((K : Int) == 0) = false := by simp; omega
      clear HP hKc
      go_wp2_with fail
      refine (samePieces_same _ _ _ _ _ _ _ T2.out T3.out).mono ?_
      rintro e w4 ⟨rfl, d, hd⟩
      have g4 : w3.grownBy w4 none := by rw [hd]; exact grown_drewN _ _ _
      have U1 := Lib.hid (T1.out.grown g4)
      have U2 := Lib.hid (T2.out.grown g4)
      have G4 := Lib.hid (grown_trans G3.out g4)
      clear hd g4 T1 T2 T3 G3
      have R := Lib.hid (repL_full (cutL_full HC.out) (par := [1, 2, 3]) ⟨rfl, by simp, fun j hj => by
        have h3 : j < 3 := hj
        have : j = 0 ∨ j = 1 ∨ j = 2 := by omega
        rcases this with rfl | rfl | rfl <;> simp⟩)
      have o5 := own_lit 3 w4 #[.int .i64 1, .int .i64 2, .int .i64 3] (by simp)
      have P5 : Hid (IntsAt (w4.alloc (.cells #[.int .i64 1, .int .i64 2, .int .i64 3] 3)) (some ⟨w4.heap.size, 0, none⟩) 3 3 [1, 2, 3]) := Lib.hid (OwnI.ints (xs := [1, 2, 3]) o5).1
      have T5 := Lib.hid (U2.out.grown (grown_alloc w4 (.cells #[.int .i64 1, .int .i64 2, .int .i64 3] 3) none))
      have G5 := Lib.hid (gAlloc G4.out (.cells #[.int .i64 1, .int .i64 2, .int .i64 3] 3))
      clear o5
      go_wp2_with fail
      refine (piecesRepair_any _ _ _ _ (cutL xs) _ _ _ [1, 2, 3] T5.out P5.out).mono ?_
      rintro e w5 ⟨v5, rfl, o5, g5⟩
      rw [R.out.2] at o5
      rw [pb_true R.out.1]
      obtain ⟨a5, c5, rfl, t5⟩ := OwnR.shape o5
      rw [HK.out] at t5 ⊢
      have T6 := Lib.hid t5
      have T7 := Lib.hid (T5.out.grown g5)
      have G6 := Lib.hid (grown_trans G5.out g5)
      clear o5 t5 g5
      go_wp2_with fail
      refine (samePieces_same _ _ _ _ _ _ _ T6.out T7.out).mono ?_
      rintro e w6 ⟨rfl, d, rfl⟩
      go_wp2_with fail
      go_ret
      exact ⟨rfl, gDrewN G6.out d⟩
set_option maxHeartbeats 2000000 in
theorem fnCut_walk (ao : Option Addr) (n cap : Nat) (w : World) (h1 : CodeAt w ao n cap) :
    Calls Try.prog 11 #[.slice ao n cap] w fun e w' => e = .returned (.bool true) ∧ w.grownBy w' none := by
  by_cases a : (1048576 : Int) < n
  · go_enter Try.func11, Try.ntmps11
    go_wp2
    go_ret
    exact ⟨rfl, grown_refl _ _⟩
  · go_enter Try.func11, Try.ntmps11
    go_wp2_with fail
    refine (drawPiecesCut_any _ _ _ _ h1).mono ?_
    rintro e w1 ⟨xs, a1, c1, l1, rfl, t1, g1⟩
    obtain ⟨N, hN⟩ : ∃ N, xs.length = N := ⟨_, rfl⟩
    rw [hN] at t1 l1 ⊢
    go_wp2_with fail
    refine (piecesCut_any _ _ _ _ xs t1 (by omega)).mono ?_
    rintro e w2 ⟨v2, rfl, o2, g2⟩
    obtain ⟨a2, c2, rfl, t2⟩ := OwnR.shape o2
    go_wp2_with fail
    refine (piecesCutS_any _ _ _ _ xs (t1.grown g2) (by omega)).mono ?_
    rintro e w3 ⟨v3, rfl, o3, g3⟩
    obtain ⟨a3, c3, rfl, t3⟩ := OwnR.shape o3
    obtain ⟨K, hK⟩ : ∃ K, (cutL xs).length = K := ⟨_, rfl⟩
    rw [hK] at t2 t3 ⊢
    have HK := Lib.hid hK
    have HN := Lib.hid hN
    have T1 := Lib.hid ((t1.grown g2).grown g3)
    have T2 := Lib.hid (t2.grown g3)
    have T3 := Lib.hid t3
    have G3 := Lib.hid (grown_trans g1 (grown_trans g2 g3))
    clear o2 o3 t1 t2 t3 g1 g2 g3 hK hN
    by_cases hK0 : K = 0
    case pos =>
      subst hK0
      go_wp2_with fail
      refine (samePieces_same _ _ _ _ _ _ _ T2.out T3.out).mono ?_
      rintro e w4 ⟨rfl, d, rfl⟩
      go_wp2_with fail
      refine (samePieces_same _ _ _ _ _ _ _ (T2.out.grown (grown_drewN _ d _)) (T3.out.grown (grown_drewN _ d _))).mono ?_
      rintro e w5 ⟨rfl, d2, rfl⟩
      go_wp2_with fail
      go_ret
      exact ⟨rfl, gDrewN G3.out _⟩
    case neg =>
      have HP : CutP xs := by
        refine Classical.byContradiction fun e => hK0 ?_
        rw [← HK.out, cutL_no e]; rfl
      have HC := Lib.hid HP
      have HE := Lib.hid (cutL_yes HP)
      have hKc : K = cutC N := by rw [← HK.out, HE.out, chunks_len, HN.out]
      have hK5 : K ≤ 5 := by rw [hKc, ← HN.out]; exact HP.2
      have hKN : (N + 3) / 3 = K := hKc.symm
      have HKC := Lib.hid hKc
      have k0 : ((K : Int) == 0) = false := by simp; omega
      clear HP hKc
      go_wp2_with fail
      refine (samePieces_same _ _ _ _ _ _ _ T2.out T3.out).mono ?_
      rintro e w4 ⟨rfl, d, hd⟩
      have g4 : w3.grownBy w4 none := by rw [hd]; exact grown_drewN _ _ _
      have U1 := Lib.hid (T1.out.grown g4)
      have U2 := Lib.hid (T2.out.grown g4)
      have G4 := Lib.hid (grown_trans G3.out g4)
      clear hd g4 T1 T2 T3 G3
      have J := Lib.hid (cutL_join HC.out)
      have JL := Lib.hid (show joinL (cutL xs) = xs by rw [joinL_yes J.out.1, J.out.2])
      go_wp2_with fail
      refine (piecesJoin_any _ _ _ _ (cutL xs) U2.out).mono ?_
      rintro e w5 ⟨a5, c5, rfl, o5, g5⟩
      rw [JL.out] at o5 ⊢
      rw [pb_true J.out.1]
      rw [HN.out] at o5 ⊢
      have O5 := Lib.hid (OwnI.ints o5).1
      have T5 := Lib.hid (U1.out.grown g5)
      have G5 := Lib.hid (grown_trans G4.out g5)
      clear o5 g5
      go_wp2_with fail
      refine (sameInts_any _ _ _ _ xs _ _ _ xs O5.out T5.out).mono ?_
      rintro e w6 ⟨rfl, d, rfl⟩
      rw [pb_true (p := xs = xs) rfl]
      go_wp2_with fail
      go_ret
      exact ⟨rfl, gDrewN G5.out d⟩
theorem cut15 : cutL (List.replicate 15 0) = [] := cutL_no fun h => by have := h.2; simp [cutC] at this
theorem cut14 : (cutL (List.replicate 14 0)).length = 5 := by
  have : CutP (List.replicate 14 0) := ⟨⟨by simp, fun j hj => by
    rw [List.length_replicate] at hj
    rw [List.getD_eq_getElem?_getD, List.getElem?_replicate, if_pos hj]; simp⟩, by simp [cutC]⟩
  rw [cutL_len this]; simp [cutC]
set_option maxHeartbeats 2000000 in
theorem fnCutLong_walk (ao : Option Addr) (n cap : Nat) (w : World) (h1 : CodeAt w ao n cap) :
    Calls Try.prog 5 #[.slice ao n cap] w fun e w' => e = .returned (.bool true) ∧ w.grownBy w' none := by
  obtain ⟨i0, hi, hz0, hz1, hz2⟩ := info_parts info_int
  by_cases a : (1048576 : Int) < n
  · go_enter Try.func5, Try.ntmps5
    go_wp2
    go_ret
    exact ⟨rfl, grown_refl _ _⟩
  · go_enter Try.func5, Try.ntmps5
    go_wp2_with fail
    refine (drawPiecesCut_any _ _ _ _ h1).mono ?_
    rintro e w1 ⟨xs, a1, c1, l1, rfl, t1, g1⟩
    obtain ⟨N, hN⟩ : ∃ N, xs.length = N := ⟨_, rfl⟩
    rw [hN] at t1 l1 ⊢
    go_wp2_with fail
    refine (piecesCut_any _ _ _ _ xs t1 (by omega)).mono ?_
    rintro e w2 ⟨v2, rfl, o2, g2⟩
    obtain ⟨a2, c2, rfl, t2⟩ := OwnR.shape o2
    go_wp2_with fail
    refine (piecesCutS_any _ _ _ _ xs (t1.grown g2) (by omega)).mono ?_
    rintro e w3 ⟨v3, rfl, o3, g3⟩
    obtain ⟨a3, c3, rfl, t3⟩ := OwnR.shape o3
    obtain ⟨K, hK⟩ : ∃ K, (cutL xs).length = K := ⟨_, rfl⟩
    rw [hK] at t2 t3 ⊢
    have HK := Lib.hid hK
    have HN := Lib.hid hN
    have T1 := Lib.hid ((t1.grown g2).grown g3)
    have T2 := Lib.hid (t2.grown g3)
    have T3 := Lib.hid t3
    have G3 := Lib.hid (grown_trans g1 (grown_trans g2 g3))
    clear o2 o3 t1 t2 t3 g1 g2 g3 hK hN
    by_cases hK0 : K = 0
    case pos =>
      subst hK0
      go_wp2_with fail
      refine (samePieces_same _ _ _ _ _ _ _ T2.out T3.out).mono ?_
      rintro e w4 ⟨rfl, d, rfl⟩
      go_wp2_with fail
      refine (samePieces_same _ _ _ _ _ _ _ (T2.out.grown (grown_drewN _ d _)) (T3.out.grown (grown_drewN _ d _))).mono ?_
      rintro e w5 ⟨rfl, d2, rfl⟩
      go_wp2_with fail
      go_ret
      exact ⟨rfl, gDrewN G3.out _⟩
    case neg =>
      have HP : CutP xs := by
        refine Classical.byContradiction fun e => hK0 ?_
        rw [← HK.out, cutL_no e]; rfl
      have HC := Lib.hid HP
      have HE := Lib.hid (cutL_yes HP)
      have hKc : K = cutC N := by rw [← HK.out, HE.out, chunks_len, HN.out]
      have hK5 : K ≤ 5 := by rw [hKc, ← HN.out]; exact HP.2
      have hKN : (N + 3) / 3 = K := hKc.symm
      have HKC := Lib.hid hKc
      have k0 : ((K : Int) == 0) = false := by simp; omega
      clear HP hKc
      go_wp2_with fail
      refine (samePieces_same _ _ _ _ _ _ _ T2.out T3.out).mono ?_
      rintro e w4 ⟨rfl, d, hd⟩
      have g4 : w3.grownBy w4 none := by rw [hd]; exact grown_drewN _ _ _
      have U1 := Lib.hid (T1.out.grown g4)
      have U2 := Lib.hid (T2.out.grown g4)
      have G4 := Lib.hid (grown_trans G3.out g4)
      clear hd g4 T1 T2 T3 G3
      clear U1 U2
      go_wp2_with (at_make; refine wpList_make_full w4 rfl _ _ 22 rfl w4.heap.size 3 i0 (.int .i64 0) 1 Try.underlying22 hi hz0 hz1 .i64 .i64 15 15 15 rfl rfl rfl rfl (by rw [hz2]; omega) (by unfold maxLen; omega) (Nat.le_refl _) ?_; intro w5 o5 g5; refine Hid.out ?_)
      show wpList _ _ _ _ _ _
      rw [made_ints] at o5
      have o6 : OwnI w4.heap.size w5 (.slice (some ⟨w4.heap.size, 0, none⟩) 15 15) (List.replicate 15 0) := by
        unfold OwnI Own
        simpa using o5
      have O6 := Lib.hid (OwnI.ints o6).1
      have G5 := Lib.hid (grown_trans G4.out g5)
      clear o5 o6 g5
      go_wp2_with fail
      refine (piecesCut_any _ _ _ _ _ O6.out (by omega)).mono ?_
      rintro e w6 ⟨v6, rfl, o6, g6⟩
      rw [cut15] at o6
      obtain ⟨a6, c6, rfl, -⟩ := OwnR.shape o6
      have G6 := Lib.hid (grown_trans G5.out g6)
      clear o6 g6
      have hmk : ∀ w, (Instr.makeSlice 22 (.int .i64 14) (.int .i64 14)).run Try.prog w = .ok (.slice (some ⟨w.heap.size, 0, none⟩) 14 14) (w.alloc (.cells (List.replicate 14 (Value.int .i64 0)).toArray 3)) := fun _ => by kernel_rfl
      have o8 := own_lit 3 w6 (List.replicate 14 (Value.int .i64 0)).toArray (by simp)
      have O8 : Hid (IntsAt (w6.alloc (.cells (List.replicate 14 (Value.int .i64 0)).toArray 3)) (some ⟨w6.heap.size, 0, none⟩) 14 14 (List.replicate 14 0)) := Lib.hid (OwnI.ints (xs := List.replicate 14 0) o8).1
      have G7 := Lib.hid (gAlloc G6.out (.cells (List.replicate 14 (Value.int .i64 0)).toArray 3))
      clear o8
      go_wp2_with fail
      refine (piecesCut_any _ _ _ _ _ O8.out (by omega)).mono ?_
      rintro e w8 ⟨v8, rfl, o8, g8⟩
      obtain ⟨a8, c8, rfl, -⟩ := OwnR.shape o8
      rw [cut14]
      have G8 := Lib.hid (grown_trans G7.out g8)
      clear o8 g8
      go_wp2_with fail
      go_ret
      exact ⟨rfl, G8.out⟩
set_option maxHeartbeats 2000000 in
theorem fnCutLength_walk (ao : Option Addr) (n cap : Nat) (w : World) (h1 : CodeAt w ao n cap) :
    Calls Try.prog 4 #[.slice ao n cap] w fun e w' => e = .returned (.bool true) ∧ w.grownBy w' none := by
  by_cases a : (1048576 : Int) < n
  · go_enter Try.func4, Try.ntmps4
    go_wp2
    go_ret
    exact ⟨rfl, grown_refl _ _⟩
  · go_enter Try.func4, Try.ntmps4
    go_wp2_with fail
    refine (drawPiecesCut_any _ _ _ _ h1).mono ?_
    rintro e w1 ⟨xs, a1, c1, l1, rfl, t1, g1⟩
    obtain ⟨N, hN⟩ : ∃ N, xs.length = N := ⟨_, rfl⟩
    rw [hN] at t1 l1 ⊢
    go_wp2_with fail
    refine (piecesCut_any _ _ _ _ xs t1 (by omega)).mono ?_
    rintro e w2 ⟨v2, rfl, o2, g2⟩
    obtain ⟨a2, c2, rfl, t2⟩ := OwnR.shape o2
    go_wp2_with fail
    refine (piecesCutS_any _ _ _ _ xs (t1.grown g2) (by omega)).mono ?_
    rintro e w3 ⟨v3, rfl, o3, g3⟩
    obtain ⟨a3, c3, rfl, t3⟩ := OwnR.shape o3
    obtain ⟨K, hK⟩ : ∃ K, (cutL xs).length = K := ⟨_, rfl⟩
    rw [hK] at t2 t3 ⊢
    have HK := Lib.hid hK
    have HN := Lib.hid hN
    have T1 := Lib.hid ((t1.grown g2).grown g3)
    have T2 := Lib.hid (t2.grown g3)
    have T3 := Lib.hid t3
    have G3 := Lib.hid (grown_trans g1 (grown_trans g2 g3))
    clear o2 o3 t1 t2 t3 g1 g2 g3 hK hN
    by_cases hK0 : K = 0
    case pos =>
      subst hK0
      go_wp2_with fail
      refine (samePieces_same _ _ _ _ _ _ _ T2.out T3.out).mono ?_
      rintro e w4 ⟨rfl, d, rfl⟩
      go_wp2_with fail
      refine (samePieces_same _ _ _ _ _ _ _ (T2.out.grown (grown_drewN _ d _)) (T3.out.grown (grown_drewN _ d _))).mono ?_
      rintro e w5 ⟨rfl, d2, rfl⟩
      go_wp2_with fail
      go_ret
      exact ⟨rfl, gDrewN G3.out _⟩
    case neg =>
      have HP : CutP xs := by
        refine Classical.byContradiction fun e => hK0 ?_
        rw [← HK.out, cutL_no e]; rfl
      have HC := Lib.hid HP
      have HE := Lib.hid (cutL_yes HP)
      have hKc : K = cutC N := by rw [← HK.out, HE.out, chunks_len, HN.out]
      have hK5 : K ≤ 5 := by rw [hKc, ← HN.out]; exact HP.2
      have hKN : (N + 3) / 3 = K := hKc.symm
      have HKC := Lib.hid hKc
      have k0 : ((K : Int) == 0) = false := by simp; omega
      clear HP hKc
      go_wp2_with fail
      refine (samePieces_same _ _ _ _ _ _ _ T2.out T3.out).mono ?_
      rintro e w4 ⟨rfl, d, hd⟩
      have g4 : w3.grownBy w4 none := by rw [hd]; exact grown_drewN _ _ _
      have U1 := Lib.hid (T1.out.grown g4)
      have U2 := Lib.hid (T2.out.grown g4)
      have G4 := Lib.hid (grown_trans G3.out g4)
      clear hd g4 T1 T2 T3 G3
      have ROW := Lib.hid (show ∀ q r, q < K → r < 3 → ((cutL xs).getD q []).length = 3 ∧ ((cutL xs).getD q []).getD r 0 = (padL xs).getD (q * 3 + r) 0 from fun q r hq hr => by
        have hq' : q < cutC xs.length := by rw [HN.out, ← HKC.out]; exact hq
        exact ⟨(cutL_one HC.out q hq').1, by rw [cutL_row HC.out q hq', pieceAt_getD _ _ _ hr]⟩)
      have PAD := Lib.hid (show ∀ i, i < N → (padL xs).getD (i + 1) 0 = xs.getD i 0 from fun i hi => by
        unfold padL
        rw [List.getD_cons_succ, List.getD_eq_getElem?_getD, List.getElem?_append_left (by rw [HN.out]; exact hi), ← List.getD_eq_getElem?_getD])
      have PAD0 := Lib.hid (show (padL xs).getD 0 0 = (N : Int) by unfold padL; rw [HN.out]; rfl)
      go_wp2_with fail
      go_loopw [6] (fun q wr => ∃ i : Nat, i ≤ N ∧ q = .int .i64 i ∧ Hid (∃ d, wr = w4.drewN d)) (fun q _ => N - (intOf q).toNat)
      case atStart => exact ⟨0, by omega, rfl, Lib.hid ⟨0, rfl⟩⟩
      case round =>
        obtain ⟨i, hi, rfl, hd⟩ := hrel
        have gr := drewN_grown hd.out none
        by_cases hin : i < N
        · obtain ⟨q, hq⟩ : ∃ q, (i + 1) / 3 = q := ⟨_, rfl⟩
          obtain ⟨r, hr⟩ : ∃ r, (i + 1) % 3 = r := ⟨_, rfl⟩
          have hqK : q < K := by omega
          have hr3 : r < 3 := by omega
          have hqr : i + 1 = q * 3 + r := by omega
          obtain ⟨b, off, ro, rc, rfl, cz, hrow⟩ := (U2.out.grown gr).at q hqK
          have HRR := ROW.out q r hqK hr3
          rw [HRR.1] at cz hrow
          obtain ⟨b2, off2, rfl, -, hcell⟩ := IntsAt.addr hrow (by omega)
          have cy := hcell r hr3
          rw [HRR.2, ← hqr, PAD.out i hin] at cy
          obtain ⟨b3, off3, rfl, -, hcell3⟩ := IntsAt.addr (U1.out.grown gr) (by omega)
          have cx := hcell3 i hin
          obtain ⟨z, hz⟩ : ∃ z, xs.getD i 0 = z := ⟨_, rfl⟩
          rw [hz] at cy cx
          have i0 : (0 : Int) ≤ (i : Int) := by omega
          have i1 : (i : Int) < N := by omega
          have q0 : (0 : Int) ≤ (q : Int) := by omega
          have q1 : (q : Int) < K := by omega
          have r0 : (0 : Int) ≤ (r : Int) := by omega
          have r1 : (r : Int) < 3 := by omega
          have e1 : IntKind.i64.wrap ((i : Int) + 1) = (i : Int) + 1 := by rw [wrap_i64_small _ (by omega) (by omega)]
          have e2 : ((i : Int) + 1).tdiv 3 = (q : Int) := by rw [Int.tdiv_eq_ediv_of_nonneg (by omega)]; omega
          have e3 : ((i : Int) + 1).tmod 3 = (r : Int) := by rw [Int.tmod_eq_emod_of_nonneg (by omega)]; omega
          have e4 : ((i : Int) + 1) / 3 = (q : Int) := by omega
          have e5 : ((i : Int) + 1) % 3 = (r : Int) := by omega
          clear hz hcell hcell3 hrow HRR hq hr hqr gr
          go_wp2_with fail
          go_quiet (fail)
          clear e1 e2 e3 e4 e5
          go_wp2
          go_roundw
          case rel => exact ⟨i + 1, by omega, by go_num, drewN_more hd _⟩
          case measure => simp [intOf]; omega
        · obtain ⟨b, off, ro, rc, rfl, cz, hrow⟩ := (U2.out.grown gr).at 0 (by omega)
          have HRR := ROW.out 0 0 (by omega) (by omega)
          rw [HRR.1] at cz hrow
          obtain ⟨b2, off2, rfl, -, hcell⟩ := IntsAt.addr hrow (by omega)
          have cy := hcell 0 (by omega)
          rw [HRR.2, PAD0.out] at cy
          rw [Nat.add_zero] at cz cy
          have GG := Lib.hid (grown_trans G4.out gr)
          clear hcell hrow HRR gr
          go_wp2
          go_ret
          exact ⟨rfl, GG.out⟩
end Go.Proofs.Ytkacopgfnkoifaa
