/- The walk of FnExactPiecesCut. -/
import Derived.Test.YtkacopgfnkoifaaExT
import Derived.WalkKit
import Derived.Lib.Hide
import Derived.Deep.QuietTactic
import Derived.BigQuiet
namespace Go.Proofs.Ytkacopgfnkoifaa
open Go.RowKit
theorem cutL_rows (xs : List Int) : (cutL xs).length ≤ 5 ∧ ∀ i, ((cutL xs).getD i []).length ≤ 3 := by
  by_cases h : CutP xs
  · rw [cutL_yes h]
    refine ⟨by rw [chunks_len]; exact h.2, fun i => ?_⟩
    unfold chunks
    rw [List.getD_eq_getElem?_getD, List.getElem?_map]
    by_cases hi : i < cutC xs.length
    · rw [List.getElem?_range hi]
      simp [pieceAt]; omega
    · rw [List.getElem?_eq_none (by simp; omega)]
      simp
  · rw [cutL_no h]; simp
theorem cutL_tot (xs : List Int) : TotP (cutL xs).length (cutL xs) := fun i hi => by
  have h := cutL_rows xs
  have := offR_le h.2 i
  have := h.1
  omega
set_option maxHeartbeats 2000000 in
theorem fnExactPiecesCut_walk (ao : Option Addr) (n cap : Nat) (xs : List Int) (w : World) (hA : IntsAt w ao n cap xs) :
    Calls Try.prog 3 #[.slice ao n cap] w fun e w' => e = .returned (.bool true) ∧ w.grownBy w' none := by
  by_cases a : (1048576 : Int) < n
  · go_enter Try.func3, Try.ntmps3
    go_wp2
    go_ret
    exact ⟨rfl, grown_refl _ _⟩
  · have Hn := Lib.hid hA.len
    obtain ⟨L, hL⟩ : ∃ L, cutL xs = L := ⟨_, rfl⟩
    have HT := cutL_tot xs
    have HK := (cutL_rows xs).1
    rw [hL] at HT HK
    have HL := Lib.hid hL
    clear hL
    have TP := Lib.hid HT
    clear HT
    have hxl : xs.length ≤ 1048576 := by have := Hn.out; omega
    go_enter Try.func3, Try.ntmps3
    go_wp2_with fail
    refine (toIntS_any _ _ _ _ _ (hA) (by omega)).mono ?_
    rintro e w1 ⟨a1, c1, rfl, o1, g1⟩
    go_wp2_with fail
    refine (piecesCutS_any _ _ _ _ xs o1.ints.1 (by omega)).mono ?_
    rintro e w2 ⟨v2, rfl, ow, g2⟩
    rw [HL.out] at ow
    obtain ⟨aw, cw, rfl, _⟩ := OwnR.shape ow
    have G := grown_trans g1 g2
    have z1 := g1.size
    have z2 := g2.size
    clear o1 g1 g2
    go_wp2_with fail
    refine (toIntS_any _ _ _ _ _ (hA.grown G) (by omega)).mono ?_
    rintro e w3 ⟨ax, cx, rfl, ox, g3⟩
    have bx := ox.blockIn
    have z3 := g3.size
    (first | replace ow := ow.grown g3 | skip)
    (first | replace ox := ox.grown g3 | skip)
    (first | replace oy := oy.grown g3 | skip)
    (first | replace og := og.grown g3 | skip)
    (first | replace oh := oh.grown g3 | skip)
    replace G := grown_trans G g3
    clear g3
    go_wp2_with fail
    refine (piecesCut_any _ _ _ _ xs ox.ints.1 (by omega)).mono ?_
    rintro e w4 ⟨v4, rfl, og, g4⟩
    rw [HL.out] at og
    obtain ⟨ag, cg, rfl, _⟩ := OwnR.shape og
    have z4 := g4.size
    (first | replace ow := ow.grown g4 | skip)
    (first | replace ox := ox.grown g4 | skip)
    (first | replace oy := oy.grown g4 | skip)
    (first | replace og := og.grown g4 | skip)
    (first | replace oh := oh.grown g4 | skip)
    replace G := grown_trans G g4
    clear g4
    go_wp2_with fail
    refine (eqIntSS_same _ _ _ _ _ _ L (OwnR.rows og) (OwnR.rows ow)).mono ?_
    rintro e w5 ⟨rfl, g5⟩
    replace g5 := drewN_grown g5 none
    (first | replace ow := ow.grown g5 | skip)
    (first | replace ox := ox.grown g5 | skip)
    (first | replace oy := oy.grown g5 | skip)
    (first | replace og := og.grown g5 | skip)
    (first | replace oh := oh.grown g5 | skip)
    replace G := grown_trans G g5
    clear g5
    go_wp2_with fail
    refine (toIntS_any _ _ _ _ _ (hA.grown G) (by omega)).mono ?_
    rintro e w6 ⟨a6, c6, rfl, o6, g6⟩
    (first | replace ow := ow.grown g6 | skip)
    (first | replace ox := ox.grown g6 | skip)
    (first | replace oy := oy.grown g6 | skip)
    (first | replace og := og.grown g6 | skip)
    (first | replace oh := oh.grown g6 | skip)
    replace G := grown_trans G g6
    clear g6
    go_wp2_with fail
    refine (eqIntS_any _ _ _ _ xs _ _ _ xs ox.ints.1 o6.ints.1).mono ?_
    rintro e w7 ⟨rfl, g7⟩
    rw [pb_true (p := xs = xs) rfl]
    replace g7 := drewN_grown g7 none
    (first | replace ow := ow.grown g7 | skip)
    (first | replace ox := ox.grown g7 | skip)
    (first | replace oy := oy.grown g7 | skip)
    (first | replace og := og.grown g7 | skip)
    (first | replace oh := oh.grown g7 | skip)
    replace G := grown_trans G g7
    clear g7 o6
    go_wp2_with fail
    refine (markIntS_any _ _ _ _ _ xs 1 ox rfl (by omega) (by omega) (by omega)).mono ?_
    rintro e w8 ⟨rfl, g8, _⟩
    have t8 := Tch.of_grown g8 bx
    clear ox bx g8
    (first | replace ow := OwnTab.tch ow t8 (by omega) | skip)
    (first | replace ox := OwnTab.tch ox t8 (by omega) | skip)
    (first | replace og := OwnTab.tch og t8 (by omega) | skip)
    replace G := Tch.grown G t8 (by omega)
    clear t8
    have p8 : ¬ (1 : Int) + (xs.length : Int) < 0 := by omega
    go_wp2_with fail
    refine (eqIntSS_same _ _ _ _ _ _ L (OwnR.rows og) (OwnR.rows ow)).mono ?_
    rintro e w9 ⟨rfl, g9⟩
    replace g9 := drewN_grown g9 none
    (first | replace ow := ow.grown g9 | skip)
    (first | replace ox := ox.grown g9 | skip)
    (first | replace oy := oy.grown g9 | skip)
    (first | replace og := og.grown g9 | skip)
    (first | replace oh := oh.grown g9 | skip)
    replace G := grown_trans G g9
    clear g9
    go_wp2_with fail
    refine (markIntSS_any _ _ _ _ _ _ L 1 og rfl (by omega) TP.out (by omega) (by omega)).mono ?_
    rintro e w10 ⟨ys, rfl, hys, oy, t10⟩
    clear og
    (first | replace ow := OwnTab.tch ow t10 (by omega) | skip)
    (first | replace ox := OwnTab.tch ox t10 (by omega) | skip)
    (first | replace og := OwnTab.tch og t10 (by omega) | skip)
    replace G := Tch.grown G t10 (by omega)
    clear t10
    go_wp2_with fail
    refine (heldIntSS_any _ _ _ _ L ys 1 (OwnR.rows oy) hys (by omega) TP.out (by omega) (by omega)).mono ?_
    rintro e w11 ⟨rfl, rfl⟩
    go_wp2_with fail
    refine (toIntS_any _ _ _ _ _ (hA.grown G) (by omega)).mono ?_
    rintro e w12 ⟨a12, c12, rfl, o12, g12⟩
    (first | replace ow := ow.grown g12 | skip)
    (first | replace ox := ox.grown g12 | skip)
    (first | replace oy := oy.grown g12 | skip)
    (first | replace og := og.grown g12 | skip)
    (first | replace oh := oh.grown g12 | skip)
    replace G := grown_trans G g12
    clear g12
    go_wp2_with fail
    refine (piecesCut_any _ _ _ _ xs o12.ints.1 (by omega)).mono ?_
    rintro e w13 ⟨v13, rfl, oh, g13⟩
    rw [HL.out] at oh
    obtain ⟨ah, ch, rfl, _⟩ := OwnR.shape oh
    (first | replace ow := ow.grown g13 | skip)
    (first | replace ox := ox.grown g13 | skip)
    (first | replace oy := oy.grown g13 | skip)
    (first | replace og := og.grown g13 | skip)
    (first | replace oh := oh.grown g13 | skip)
    replace G := grown_trans G g13
    clear g13 o12
    go_wp2_with fail
    refine (eqIntSS_same _ _ _ _ _ _ L (OwnR.rows oh) (OwnR.rows ow)).mono ?_
    rintro e w14 ⟨rfl, g14⟩
    replace g14 := drewN_grown g14 none
    (first | replace ow := ow.grown g14 | skip)
    (first | replace ox := ox.grown g14 | skip)
    (first | replace oy := oy.grown g14 | skip)
    (first | replace og := og.grown g14 | skip)
    (first | replace oh := oh.grown g14 | skip)
    replace G := grown_trans G g14
    clear g14
    go_wp2_with fail
    refine (heldIntSS_any _ _ _ _ L ys 1 (OwnR.rows oy) hys (by omega) TP.out (by omega) (by omega)).mono ?_
    rintro e w15 ⟨rfl, rfl⟩
    go_wp2_with fail
    go_ret
    exact ⟨rfl, G⟩
end Go.Proofs.Ytkacopgfnkoifaa
