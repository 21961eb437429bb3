/- The walk of FnExactPiecesRepair. -/
import Derived.Test.YtkacopgfnkoifaaExT
import Derived.Test.YtkacopgfnkoifaaRepS
import Derived.WalkKit
import Derived.Lib.Hide
import Derived.Deep.QuietTactic
import Derived.BigQuiet
namespace Go.Proofs.Ytkacopgfnkoifaa
open Go.RowKit
theorem repL_rows (rows : List (List Int)) (par : List Int) : (repL rows par).length ≤ 5 ∧ ∀ i, ((repL rows par).getD i []).length ≤ 3 := by
  by_cases h : RepP rows par
  · rw [repL_yes h]
    refine ⟨by rw [reps_len]; exact h.1.1.2, fun i => ?_⟩
    rw [List.getD_eq_getElem?_getD, List.getElem?_map]
    by_cases hi : i < rows.length
    · rw [List.getElem?_range hi]
      exact Nat.le_of_eq (repRow_one h i hi).1
    · rw [List.getElem?_eq_none (by simp; omega)]
      simp
  · rw [repL_no h]; simp
theorem repL_tot (rows : List (List Int)) (par : List Int) : TotP (repL rows par).length (repL rows par) := fun i hi => by
  have h := repL_rows rows par
  have := offR_le h.2 i
  have := h.1
  omega
set_option maxHeartbeats 4000000 in
theorem fnExactPiecesRepair_walk (ao : Option Addr) (n cap : Nat) (rows : List (List Int)) (bo : Option Addr) (m cap' : Nat) (par : List Int) (w : World) (hA : RowsAt w ao n cap rows) (hB : IntsAt w bo m cap' par) :
    Calls Try.prog 14 #[.slice ao n cap, .slice bo m cap'] w fun e w' => e = .returned (.bool true) ∧ w.grownBy w' none := by
  by_cases a : (1048576 : Int) < m
  · go_enter Try.func14, Try.ntmps14
    go_wp2
    go_ret
    exact ⟨rfl, grown_refl _ _⟩
  go_enter Try.func14, Try.ntmps14
  go_wp2_with fail
  refine (szIntSS_any _ _ _ _ _ hA).mono ?_
  rintro e w1 ⟨r, rfl, rfl, rfl | ⟨r0, r1, n1, hl⟩⟩
  · go_wp2
    go_ret
    exact ⟨rfl, grown_refl _ _⟩
  · have r0' : ¬ r < 0 := by omega
    have Hn := Lib.hid hA.len
    have Hm := Lib.hid hB.len
    have hpl : par.length ≤ 1048576 := by have := Hm.out; omega
    obtain ⟨L, hL⟩ : ∃ L, repL rows par = L := ⟨_, rfl⟩
    obtain ⟨v, hv⟩ : ∃ v, pb (RepP rows par) = v := ⟨_, rfl⟩
    have HK := (repL_rows rows par).1
    have HT := repL_tot rows par
    rw [hL] at HK HT
    have HL := Lib.hid hL
    have HV := Lib.hid hv
    have TL := Lib.hid HT
    have TP := Lib.hid hl
    clear hL hl hv HT
    have G := grown_refl w none
    go_wp2_with fail
    refine (toIntSS_any _ _ _ _ rows (RowsAt.grown hA G) (by omega) TP.out).mono ?_
    rintro e w1 ⟨a1, c1, rfl, o1, g1⟩
    (first | replace ow := ow.grown g1 | skip)
    (first | replace ox := ox.grown g1 | skip)
    (first | replace oy := oy.grown g1 | skip)
    (first | replace og := og.grown g1 | skip)
    (first | replace oh := oh.grown g1 | skip)
    replace G := grown_trans G g1
    go_wp2_with fail
    refine (toIntS_any _ _ _ _ _ (hB.grown G) (by omega)).mono ?_
    rintro e wp ⟨ap, cp, rfl, op, gp⟩
    replace o1 := o1.grown gp
    (first | replace ow := ow.grown gp | skip)
    (first | replace ox := ox.grown gp | skip)
    (first | replace oy := oy.grown gp | skip)
    (first | replace og := og.grown gp | skip)
    (first | replace oh := oh.grown gp | skip)
    replace G := grown_trans G gp
    clear g1 gp
    go_wp2_with fail
    refine (piecesRepairS_any _ _ _ _ rows _ _ _ par (OwnR.rows o1) op.ints.1).mono ?_
    rintro e w2 ⟨vw, rfl, ow, g2⟩
    rw [HL.out] at ow
    rw [HV.out]
    obtain ⟨aw, cw, rfl, _⟩ := OwnR.shape ow
    (first | replace ow := ow.grown g2 | skip)
    (first | replace ox := ox.grown g2 | skip)
    (first | replace oy := oy.grown g2 | skip)
    (first | replace og := og.grown g2 | skip)
    (first | replace oh := oh.grown g2 | skip)
    replace G := grown_trans G g2
    have z1 := G.size
    clear o1 op g2
    go_wp2_with fail
    refine (toIntSS_any _ _ _ _ rows (RowsAt.grown hA G) (by omega) TP.out).mono ?_
    rintro e w3 ⟨ax, cx, rfl, ox, g3⟩
    have z3 := g3.size
    (first | replace ow := ow.grown g3 | skip)
    (first | replace ox := ox.grown g3 | skip)
    (first | replace oy := oy.grown g3 | skip)
    (first | replace og := og.grown g3 | skip)
    (first | replace oh := oh.grown g3 | skip)
    replace G := grown_trans G g3
    clear g3
    go_wp2_with fail
    refine (toIntS_any _ _ _ _ _ (hB.grown G) (by omega)).mono ?_
    rintro e wq ⟨aq, cq, rfl, oq, gq⟩
    have bq := oq.blockIn
    have zq := gq.size
    (first | replace ow := ow.grown gq | skip)
    (first | replace ox := ox.grown gq | skip)
    (first | replace oy := oy.grown gq | skip)
    (first | replace og := og.grown gq | skip)
    (first | replace oh := oh.grown gq | skip)
    replace G := grown_trans G gq
    clear gq
    go_wp2_with fail
    refine (piecesRepair_any _ _ _ _ rows _ _ _ par (OwnR.rows ox) oq.ints.1).mono ?_
    rintro e w4 ⟨vg, rfl, og, g4⟩
    rw [HL.out] at og
    rw [HV.out]
    obtain ⟨ag, cg, rfl, _⟩ := OwnR.shape og
    have z4 := g4.size
    replace oq := oq.grown g4
    (first | replace ow := ow.grown g4 | skip)
    (first | replace ox := ox.grown g4 | skip)
    (first | replace oy := oy.grown g4 | skip)
    (first | replace og := og.grown g4 | skip)
    (first | replace oh := oh.grown g4 | skip)
    replace G := grown_trans G g4
    clear g4
    go_wp2_with fail
    refine (eqIntSS_same _ _ _ _ _ _ L (OwnR.rows og) (OwnR.rows ow)).mono ?_
    rintro e w5 ⟨rfl, g5⟩
    replace g5 := drewN_grown g5 none
    replace oq := oq.grown g5
    (first | replace ow := ow.grown g5 | skip)
    (first | replace ox := ox.grown g5 | skip)
    (first | replace oy := oy.grown g5 | skip)
    (first | replace og := og.grown g5 | skip)
    (first | replace oh := oh.grown g5 | skip)
    replace G := grown_trans G g5
    clear g5
    go_wp2_with fail
    refine (toIntSS_any _ _ _ _ rows (RowsAt.grown hA G) (by omega) TP.out).mono ?_
    rintro e w6 ⟨a6, c6, rfl, o6, g6⟩
    replace oq := oq.grown g6
    (first | replace ow := ow.grown g6 | skip)
    (first | replace ox := ox.grown g6 | skip)
    (first | replace oy := oy.grown g6 | skip)
    (first | replace og := og.grown g6 | skip)
    (first | replace oh := oh.grown g6 | skip)
    replace G := grown_trans G g6
    clear g6
    go_wp2_with fail
    refine (eqIntSS_same _ _ _ _ _ _ rows (OwnR.rows ox) (OwnR.rows o6)).mono ?_
    rintro e w7 ⟨rfl, g7⟩
    replace g7 := drewN_grown g7 none
    replace oq := oq.grown g7
    (first | replace ow := ow.grown g7 | skip)
    (first | replace ox := ox.grown g7 | skip)
    (first | replace oy := oy.grown g7 | skip)
    (first | replace og := og.grown g7 | skip)
    (first | replace oh := oh.grown g7 | skip)
    replace G := grown_trans G g7
    clear g7 o6
    go_wp2_with fail
    refine (toIntS_any _ _ _ _ _ (hB.grown G) (by omega)).mono ?_
    rintro e wr ⟨ar, cr, rfl, or_, gr⟩
    replace oq := oq.grown gr
    (first | replace ow := ow.grown gr | skip)
    (first | replace ox := ox.grown gr | skip)
    (first | replace oy := oy.grown gr | skip)
    (first | replace og := og.grown gr | skip)
    (first | replace oh := oh.grown gr | skip)
    replace G := grown_trans G gr
    clear gr
    go_wp2_with fail
    refine (eqIntS_any _ _ _ _ par _ _ _ par oq.ints.1 or_.ints.1).mono ?_
    rintro e ws ⟨rfl, gs⟩
    rw [pb_true (p := par = par) rfl]
    replace gs := drewN_grown gs none
    replace oq := oq.grown gs
    (first | replace ow := ow.grown gs | skip)
    (first | replace ox := ox.grown gs | skip)
    (first | replace oy := oy.grown gs | skip)
    (first | replace og := og.grown gs | skip)
    (first | replace oh := oh.grown gs | skip)
    replace G := grown_trans G gs
    clear gs or_
    go_wp2_with fail
    refine (markIntSS_any _ _ _ _ _ _ rows 1 ox Hn.out (by omega) TP.out (by omega) (by omega)).mono ?_
    rintro e w8 ⟨ys, rfl, _, _, t8⟩
    clear ox
    have kk := TP.out n (Nat.le_refl _)
    obtain ⟨T, hT⟩ : ∃ T, offR rows n = T := ⟨_, rfl⟩
    rw [hT] at kk ⊢
    clear hT
    replace ow := OwnTab.tch ow t8 (by omega)
    replace og := OwnTab.tch og t8 (by omega)
    replace oq := Own.tch oq t8 (fun b hb => by have := bq b hb; omega)
    replace G := Tch.grown G t8 (by omega)
    clear t8
    go_wp2_with fail
    refine (markIntS_any _ _ _ _ _ par (1 + (T : Int)) oq rfl (by omega) (by omega) (by omega)).mono ?_
    rintro e w9 ⟨rfl, g9, _⟩
    have t9 := Tch.of_grown g9 bq
    clear oq g9
    replace ow := OwnTab.tch ow t9 (by omega)
    replace og := OwnTab.tch og t9 (by omega)
    replace G := Tch.grown G t9 (by omega)
    clear t9 bq
    have p8 : ¬ (1 : Int) + (T : Int) + (par.length : Int) < 0 := by omega
    go_wp2_with fail
    refine (eqIntSS_same _ _ _ _ _ _ L (OwnR.rows og) (OwnR.rows ow)).mono ?_
    rintro e wt ⟨rfl, gt⟩
    replace gt := drewN_grown gt none
    (first | replace ow := OwnTab.grown ow gt | skip)
    (first | replace og := OwnTab.grown og gt | skip)
    (first | replace oy := OwnTab.grown oy gt | skip)
    (first | replace oh := OwnTab.grown oh gt | skip)
    replace G := grown_trans G gt
    clear gt
    go_wp2_with fail
    refine (markIntSS_any _ _ _ _ _ _ L 1 og rfl (by omega) TL.out (by omega) (by omega)).mono ?_
    rintro e w10 ⟨zs, rfl, hzs, oy, t10⟩
    clear og
    replace ow := OwnTab.tch ow t10 (by omega)
    replace G := Tch.grown G t10 (by omega)
    clear t10
    go_wp2_with fail
    refine (heldIntSS_any _ _ _ _ L zs 1 (OwnR.rows oy) hzs (by omega) TL.out (by omega) (by omega)).mono ?_
    rintro e w11 ⟨rfl, rfl⟩
    go_wp2_with fail
    refine (toIntSS_any _ _ _ _ rows (RowsAt.grown hA G) (by omega) TP.out).mono ?_
    rintro e w12 ⟨a12, c12, rfl, o12, g12⟩
    (first | replace ow := OwnTab.grown ow g12 | skip)
    (first | replace og := OwnTab.grown og g12 | skip)
    (first | replace oy := OwnTab.grown oy g12 | skip)
    (first | replace oh := OwnTab.grown oh g12 | skip)
    replace G := grown_trans G g12
    clear g12
    go_wp2_with fail
    refine (toIntS_any _ _ _ _ _ (hB.grown G) (by omega)).mono ?_
    rintro e wu ⟨au, cu, rfl, ou, gu⟩
    replace o12 := OwnR.grown o12 gu
    (first | replace ow := OwnTab.grown ow gu | skip)
    (first | replace og := OwnTab.grown og gu | skip)
    (first | replace oy := OwnTab.grown oy gu | skip)
    (first | replace oh := OwnTab.grown oh gu | skip)
    replace G := grown_trans G gu
    clear gu
    go_wp2_with fail
    refine (piecesRepair_any _ _ _ _ rows _ _ _ par (OwnR.rows o12) ou.ints.1).mono ?_
    rintro e w13 ⟨vh, rfl, oh, g13⟩
    rw [HL.out] at oh
    rw [HV.out]
    obtain ⟨ah, ch, rfl, _⟩ := OwnR.shape oh
    (first | replace ow := OwnTab.grown ow g13 | skip)
    (first | replace og := OwnTab.grown og g13 | skip)
    (first | replace oy := OwnTab.grown oy g13 | skip)
    (first | replace oh := OwnTab.grown oh g13 | skip)
    replace G := grown_trans G g13
    clear g13 o12 ou
    go_wp2_with fail
    refine (eqIntSS_same _ _ _ _ _ _ L (OwnR.rows oh) (OwnR.rows ow)).mono ?_
    rintro e w14 ⟨rfl, g14⟩
    replace g14 := drewN_grown g14 none
    (first | replace ow := OwnTab.grown ow g14 | skip)
    (first | replace og := OwnTab.grown og g14 | skip)
    (first | replace oy := OwnTab.grown oy g14 | skip)
    (first | replace oh := OwnTab.grown oh g14 | skip)
    replace G := grown_trans G g14
    clear g14
    go_wp2_with fail
    refine (heldIntSS_any _ _ _ _ L zs 1 (OwnR.rows oy) hzs (by omega) TL.out (by omega) (by omega)).mono ?_
    rintro e w15 ⟨rfl, rfl⟩
    go_wp2_with fail
    go_ret
    exact ⟨rfl, G⟩
end Go.Proofs.Ytkacopgfnkoifaa
