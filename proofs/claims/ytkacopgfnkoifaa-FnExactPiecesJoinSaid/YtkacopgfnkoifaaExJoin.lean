/- The walk of FnExactPiecesJoin. -/
import Derived.Test.YtkacopgfnkoifaaExT
import Derived.Test.YtkacopgfnkoifaaJoinS
import Derived.WalkKit
import Derived.Lib.Hide
import Derived.Deep.QuietTactic
import Derived.BigQuiet
namespace Go.Proofs.Ytkacopgfnkoifaa
open Go.RowKit
theorem joinL_len (rows : List (List Int)) : (joinL rows).length ≤ 15 := by
  by_cases h : JoinP rows
  · have h2 := joinP_iff.1 h
    have := h.1.1.1
    rw [joinL_yes h, joinR_len h.1 h2.2.1]; omega
  · rw [joinL_no h]; simp
set_option maxHeartbeats 4000000 in
theorem fnExactPiecesJoin_walk (ao : Option Addr) (n cap : Nat) (rows : List (List Int)) (w : World) (hA : RowsAt w ao n cap rows) :
    Calls Try.prog 15 #[.slice ao n cap] w fun e w' => e = .returned (.bool true) ∧ w.grownBy w' none := by
  go_enter Try.func15, Try.ntmps15
  go_wp2_with fail
  refine (szIntSS_any _ _ _ _ _ hA).mono ?_
  rintro e w1 ⟨r, rfl, rfl, rfl | ⟨r0, r1, n1, hl⟩⟩
  · go_wp2
    go_ret
    exact ⟨rfl, grown_refl _ _⟩
  · have r0' : ¬ r < 0 := by omega
    have Hn := Lib.hid hA.len
    obtain ⟨L, hL⟩ : ∃ L, joinL rows = L := ⟨_, rfl⟩
    obtain ⟨v, hv⟩ : ∃ v, pb (JoinP rows) = v := ⟨_, rfl⟩
    have HK := joinL_len rows
    rw [hL] at HK
    have HL := Lib.hid hL
    have HV := Lib.hid hv
    have TP := Lib.hid hl
    clear hL hl hv
    have G := grown_refl w none
    go_wp2_with fail
    refine (toIntSS_any _ _ _ _ rows (RowsAt.grown hA G) (by omega) TP.out).mono ?_
    rintro e w1 ⟨a1, c1, rfl, o1, g1⟩
    (first | replace ow := ow.grown g1 | skip)
    (first | replace ox := ox.grown g1 | skip)
    (first | replace oy := oy.grown g1 | skip)
    (first | replace og := og.grown g1 | skip)
    (first | replace oh := oh.grown g1 | skip)
    replace G := grown_trans G g1
    clear g1
    go_wp2_with fail
    refine (piecesJoinS_any _ _ _ _ rows (OwnR.rows o1)).mono ?_
    rintro e w2 ⟨aw, cw, rfl, ow, g2⟩
    rw [HL.out] at ow ⊢
    rw [HV.out]
    have bw := ow.blockIn
    (first | replace ow := ow.grown g2 | skip)
    (first | replace ox := ox.grown g2 | skip)
    (first | replace oy := oy.grown g2 | skip)
    (first | replace og := og.grown g2 | skip)
    (first | replace oh := oh.grown g2 | skip)
    replace G := grown_trans G g2
    have z1 := G.size
    clear o1 g2
    go_wp2_with fail
    refine (toIntSS_any _ _ _ _ rows (RowsAt.grown hA G) (by omega) TP.out).mono ?_
    rintro e w3 ⟨ax, cx, rfl, ox, g3⟩
    have z3 := g3.size
    (first | replace ow := ow.grown g3 | skip)
    (first | replace ox := ox.grown g3 | skip)
    (first | replace oy := oy.grown g3 | skip)
    (first | replace og := og.grown g3 | skip)
    (first | replace oh := oh.grown g3 | skip)
    replace G := grown_trans G g3
    clear g3
    go_wp2_with fail
    refine (piecesJoin_any _ _ _ _ rows (OwnR.rows ox)).mono ?_
    rintro e w4 ⟨ag, cg, rfl, og, g4⟩
    rw [HL.out] at og ⊢
    rw [HV.out]
    have bg := og.blockIn
    have z4 := g4.size
    (first | replace ow := ow.grown g4 | skip)
    (first | replace ox := ox.grown g4 | skip)
    (first | replace oy := oy.grown g4 | skip)
    (first | replace og := og.grown g4 | skip)
    (first | replace oh := oh.grown g4 | skip)
    replace G := grown_trans G g4
    clear g4
    go_wp2_with fail
    refine (eqIntS_any _ _ _ _ L _ _ _ L og.ints.1 ow.ints.1).mono ?_
    rintro e w5 ⟨rfl, g5⟩
    rw [pb_true (p := L = L) rfl]
    replace g5 := drewN_grown g5 none
    (first | replace ow := ow.grown g5 | skip)
    (first | replace ox := ox.grown g5 | skip)
    (first | replace oy := oy.grown g5 | skip)
    (first | replace og := og.grown g5 | skip)
    (first | replace oh := oh.grown g5 | skip)
    replace G := grown_trans G g5
    clear g5
    go_wp2_with fail
    refine (toIntSS_any _ _ _ _ rows (RowsAt.grown hA G) (by omega) TP.out).mono ?_
    rintro e w6 ⟨a6, c6, rfl, o6, g6⟩
    (first | replace ow := ow.grown g6 | skip)
    (first | replace ox := ox.grown g6 | skip)
    (first | replace oy := oy.grown g6 | skip)
    (first | replace og := og.grown g6 | skip)
    (first | replace oh := oh.grown g6 | skip)
    replace G := grown_trans G g6
    clear g6
    go_wp2_with fail
    refine (eqIntSS_same _ _ _ _ _ _ rows (OwnR.rows ox) (OwnR.rows o6)).mono ?_
    rintro e w7 ⟨rfl, g7⟩
    replace g7 := drewN_grown g7 none
    (first | replace ow := ow.grown g7 | skip)
    (first | replace ox := ox.grown g7 | skip)
    (first | replace oy := oy.grown g7 | skip)
    (first | replace og := og.grown g7 | skip)
    (first | replace oh := oh.grown g7 | skip)
    replace G := grown_trans G g7
    clear g7 o6
    go_wp2_with fail
    refine (markIntSS_any _ _ _ _ _ _ rows 1 ox Hn.out (by omega) TP.out (by omega) (by omega)).mono ?_
    rintro e w8 ⟨ys, rfl, _, _, t8⟩
    clear ox
    have kk := TP.out n (Nat.le_refl _)
    obtain ⟨T, hT⟩ : ∃ T, offR rows n = T := ⟨_, rfl⟩
    rw [hT] at kk ⊢
    clear hT
    replace ow := Own.tch ow t8 (fun b hb => by have := bw b hb; omega)
    replace og := Own.tch og t8 (fun b hb => by have := bg b hb; omega)
    replace G := Tch.grown G t8 (by omega)
    clear t8
    have p8 : ¬ (1 : Int) + (T : Int) < 0 := by omega
    go_wp2_with fail
    refine (eqIntS_any _ _ _ _ L _ _ _ L (OwnI.ints og).1 (OwnI.ints ow).1).mono ?_
    rintro e w9 ⟨rfl, g9⟩
    rw [pb_true (p := L = L) rfl]
    replace g9 := drewN_grown g9 none
    (first | replace ow := OwnI.grown ow g9 | skip)
    (first | replace og := OwnI.grown og g9 | skip)
    (first | replace oy := OwnI.grown oy g9 | skip)
    (first | replace oh := OwnI.grown oh g9 | skip)
    replace G := grown_trans G g9
    clear g9
    go_wp2_with fail
    refine (markIntS_any _ _ _ _ _ L 1 og rfl (by omega) (by omega) (by omega)).mono ?_
    rintro e w10 ⟨rfl, g10, oy⟩
    clear og
    have t10 := Tch.of_grown g10 bg
    replace ow := Own.tch ow t10 (fun b hb => by have := bw b hb; omega)
    replace G := Tch.grown G t10 (by omega)
    clear t10 g10
    go_wp2_with fail
    refine (heldIntS_any _ _ _ _ 1 (by have := (OwnI.ints oy).1; exact this) (by omega) (by omega) (by omega)).mono ?_
    rintro e w11 ⟨rfl, rfl⟩
    go_wp2_with fail
    refine (toIntSS_any _ _ _ _ rows (RowsAt.grown hA G) (by omega) TP.out).mono ?_
    rintro e w12 ⟨a12, c12, rfl, o12, g12⟩
    (first | replace ow := OwnI.grown ow g12 | skip)
    (first | replace og := OwnI.grown og g12 | skip)
    (first | replace oy := OwnI.grown oy g12 | skip)
    (first | replace oh := OwnI.grown oh g12 | skip)
    replace G := grown_trans G g12
    clear g12
    go_wp2_with fail
    refine (piecesJoin_any _ _ _ _ rows (OwnR.rows o12)).mono ?_
    rintro e w13 ⟨ah, ch, rfl, oh, g13⟩
    rw [HL.out] at oh ⊢
    rw [HV.out]
    (first | replace ow := OwnI.grown ow g13 | skip)
    (first | replace og := OwnI.grown og g13 | skip)
    (first | replace oy := OwnI.grown oy g13 | skip)
    (first | replace oh := OwnI.grown oh g13 | skip)
    replace G := grown_trans G g13
    clear g13 o12
    go_wp2_with fail
    refine (eqIntS_any _ _ _ _ L _ _ _ L oh.ints.1 (OwnI.ints ow).1).mono ?_
    rintro e w14 ⟨rfl, g14⟩
    rw [pb_true (p := L = L) rfl]
    replace g14 := drewN_grown g14 none
    (first | replace ow := OwnI.grown ow g14 | skip)
    (first | replace og := OwnI.grown og g14 | skip)
    (first | replace oy := OwnI.grown oy g14 | skip)
    (first | replace oh := OwnI.grown oh g14 | skip)
    replace G := grown_trans G g14
    clear g14
    go_wp2_with fail
    refine (heldIntS_any _ _ _ _ 1 (by have := (OwnI.ints oy).1; exact this) (by omega) (by omega) (by omega)).mono ?_
    rintro e w15 ⟨rfl, rfl⟩
    go_wp2_with fail
    go_ret
    exact ⟨rfl, G⟩
end Go.Proofs.Ytkacopgfnkoifaa
