/- The walks of FnExactViewOf and FnExactViewSame. -/
import Derived.Test.YtolifggjblfobaaExF
import Derived.WalkKit
import Derived.Lib.Hide
import Derived.Deep.QuietTactic
import Derived.BigQuiet
namespace Go.Proofs.Ytolifggjblfobaa
open Go.RowKit
set_option maxHeartbeats 2000000 in
theorem fnExactViewOf_walk (ao : Option Addr) (n cap : Nat) (fs : List F3) (w : World) (hI : FlowsIn w ao n cap fs) :
    Calls Try.prog 9 #[.slice ao n cap] w fun e w' => e = .returned (.bool true) ∧ w.grownBy w' none := by
  have hm := hI.at_.max
  have hnm := hI.at_.le
  have HA := Lib.hid hI.at_
  have HW := Lib.hid hI.wf
  have HN := Lib.hid hI.at_.len
  go_enter Try.func9, Try.ntmps9
  go_wp2_with fail
  refine (szFlowS_any _ _ _ _ _ (by omega) (by omega) (by omega)).mono ?_
  rintro e w1 ⟨rfl, rfl⟩
  by_cases hn : (1048576 : Int) < n
  · rw [if_pos hn]
    go_wp2
    go_ret
    exact ⟨rfl, grown_refl _ _⟩
  · rw [if_neg hn]
    have hn2 : ¬ (1048576 : Int) - n < 0 := by omega
    obtain ⟨L, hL⟩ : ∃ L, viewL fs = L := ⟨_, rfl⟩
    have HL := Lib.hid hL
    have hLl : L.length ≤ 16 := by rw [← hL]; exact view_len fs
    clear hL
    have G := grown_refl w none
    go_wp2_with fail
    refine (toFlowS_any _ _ _ _ _ (HA.out) (by omega)).mono ?_
    rintro e w1 ⟨a1, rfl, o1, g1⟩
    obtain ⟨a1, c1, rfl, -⟩ := OwnF.shape o1
    rw [HN.out] at o1 ⊢
    (first | replace ow := OwnF.grown ow g1 | skip)
    (first | replace ox := OwnF.grown ox g1 | skip)
    (first | replace oy := OwnF.grown oy g1 | skip)
    (first | replace og := OwnF.grown og g1 | skip)
    (first | replace oh := OwnF.grown oh g1 | skip)
    replace G := grown_trans G g1
    go_wp2_with fail
    refine (viewOfS_any _ _ _ _ fs (OwnF.at o1).1).mono ?_
    rintro e w2 ⟨vw, rfl, ow, g2⟩
    rw [HL.out] at ow
    obtain ⟨aw, cw, rfl, -⟩ := OwnF.shape ow
    (first | replace ow := OwnF.grown ow g2 | skip)
    (first | replace ox := OwnF.grown ox g2 | skip)
    (first | replace oy := OwnF.grown oy g2 | skip)
    (first | replace og := OwnF.grown og g2 | skip)
    (first | replace oh := OwnF.grown oh g2 | skip)
    replace G := grown_trans G g2
    have bw := ow.bound
    have zw := G.size
    clear o1 g1 g2
    go_wp2_with fail
    refine (toFlowS_any _ _ _ _ _ (HA.out.grown G) (by omega)).mono ?_
    rintro e w3 ⟨ax, rfl, ox, g3⟩
    obtain ⟨ax, cx, rfl, -⟩ := OwnF.shape ox
    rw [HN.out] at ox ⊢
    have bx := ox.bound
    (first | replace ow := OwnF.grown ow g3 | skip)
    (first | replace ox := OwnF.grown ox g3 | skip)
    (first | replace oy := OwnF.grown oy g3 | skip)
    (first | replace og := OwnF.grown og g3 | skip)
    (first | replace oh := OwnF.grown oh g3 | skip)
    replace G := grown_trans G g3
    have zx := G.size
    go_wp2_with fail
    refine (viewOf_any _ _ _ _ fs (OwnF.at ox).1 HW.out).mono ?_
    rintro e w4 ⟨vg, rfl, og, g4⟩
    rw [HL.out] at og
    obtain ⟨ag, cg, rfl, -⟩ := OwnF.shape og
    have bg := og.bound
    have z3 := g3.size
    (first | replace ow := OwnF.grown ow g4 | skip)
    (first | replace ox := OwnF.grown ox g4 | skip)
    (first | replace oy := OwnF.grown oy g4 | skip)
    (first | replace og := OwnF.grown og g4 | skip)
    (first | replace oh := OwnF.grown oh g4 | skip)
    replace G := grown_trans G g4
    clear g3 g4
    go_wp2_with fail
    refine (eqFlowS_same _ _ _ _ _ _ L (OwnF.at og).1 (OwnF.at ow).1).mono ?_
    rintro e w5 ⟨rfl, g5⟩
    (first | replace ow := OwnF.grown ow g5 | skip)
    (first | replace ox := OwnF.grown ox g5 | skip)
    (first | replace oy := OwnF.grown oy g5 | skip)
    (first | replace og := OwnF.grown og g5 | skip)
    (first | replace oh := OwnF.grown oh g5 | skip)
    replace G := grown_trans G g5
    clear g5
    go_wp2_with fail
    refine (toFlowS_any _ _ _ _ _ (HA.out.grown G) (by omega)).mono ?_
    rintro e w6 ⟨a6, rfl, o6, g6⟩
    obtain ⟨a6, c6, rfl, -⟩ := OwnF.shape o6
    rw [HN.out] at o6 ⊢
    (first | replace ow := OwnF.grown ow g6 | skip)
    (first | replace ox := OwnF.grown ox g6 | skip)
    (first | replace oy := OwnF.grown oy g6 | skip)
    (first | replace og := OwnF.grown og g6 | skip)
    (first | replace oh := OwnF.grown oh g6 | skip)
    replace G := grown_trans G g6
    clear g6
    go_wp2_with fail
    refine (eqFlowS_same _ _ _ _ _ _ fs (OwnF.at ox).1 (OwnF.at o6).1).mono ?_
    rintro e w7 ⟨rfl, g7⟩
    (first | replace ow := OwnF.grown ow g7 | skip)
    (first | replace ox := OwnF.grown ox g7 | skip)
    (first | replace oy := OwnF.grown oy g7 | skip)
    (first | replace og := OwnF.grown og g7 | skip)
    (first | replace oh := OwnF.grown oh g7 | skip)
    replace G := grown_trans G g7
    clear g7 o6
    go_wp2_with fail
    refine (markFlowS_any _ _ _ _ _ fs 1 ox HN.out (by omega) (by omega) (by omega)).mono ?_
    rintro e w8 ⟨rfl, g8, -⟩
    replace ow := ow.other (M := w2.heap.size) g8 (.inl ⟨fun k e => by have := bw k e; omega, fun k e => (bx k e).1⟩)
    replace og := og.other (M := w3.heap.size) g8 (.inr ⟨fun k e => (bg k e).1, fun k e => (bx k e).2⟩)
    replace G := grownF_own G ox g8 (by omega)
    clear g8 ox
    have p8 : ¬ (1 : Int) + 3 * (n : Int) < 0 := by omega
    go_wp2_with fail
    refine (eqFlowS_same _ _ _ _ _ _ L (OwnF.at og).1 (OwnF.at ow).1).mono ?_
    rintro e w9 ⟨rfl, g9⟩
    (first | replace ow := OwnF.grown ow g9 | skip)
    (first | replace ox := OwnF.grown ox g9 | skip)
    (first | replace oy := OwnF.grown oy g9 | skip)
    (first | replace og := OwnF.grown og g9 | skip)
    (first | replace oh := OwnF.grown oh g9 | skip)
    replace G := grown_trans G g9
    clear g9
    go_wp2_with fail
    refine (markFlowS_any _ _ _ _ _ L 1 og rfl (by omega) (by omega) (by omega)).mono ?_
    rintro e w10 ⟨rfl, g10, oy⟩
    replace ow := ow.other (M := w3.heap.size) g10 (.inl ⟨fun k e => by have := bw k e; omega, fun k e => (bg k e).1⟩)
    replace G := grownF_own G og g10 (by omega)
    clear g10 og
    go_wp2_with fail
    refine (heldFlowS_any _ _ _ _ 1 (OwnF.at oy).1 (by omega) (by omega) (by omega)).mono ?_
    rintro e w11 ⟨rfl, rfl⟩
    have p11 : ¬ (1 : Int) + 3 * (L.length : Int) < 0 := by omega
    go_wp2_with fail
    refine (toFlowS_any _ _ _ _ _ (HA.out.grown G) (by omega)).mono ?_
    rintro e w12 ⟨a12, rfl, o12, g12⟩
    obtain ⟨a12, c12, rfl, -⟩ := OwnF.shape o12
    rw [HN.out] at o12 ⊢
    (first | replace ow := OwnF.grown ow g12 | skip)
    (first | replace ox := OwnF.grown ox g12 | skip)
    (first | replace oy := OwnF.grown oy g12 | skip)
    (first | replace og := OwnF.grown og g12 | skip)
    (first | replace oh := OwnF.grown oh g12 | skip)
    replace G := grown_trans G g12
    clear g12
    go_wp2_with fail
    refine (viewOf_any _ _ _ _ fs (OwnF.at o12).1 HW.out).mono ?_
    rintro e w13 ⟨vh, rfl, oh, g13⟩
    rw [HL.out] at oh
    obtain ⟨ah, ch, rfl, -⟩ := OwnF.shape oh
    replace ow := OwnF.grown ow g13
    replace oy := OwnF.grown oy g13
    replace G := grown_trans G g13
    clear g13 o12
    go_wp2_with fail
    refine (eqFlowS_same _ _ _ _ _ _ L (OwnF.at oh).1 (OwnF.at ow).1).mono ?_
    rintro e w14 ⟨rfl, g14⟩
    (first | replace ow := OwnF.grown ow g14 | skip)
    (first | replace ox := OwnF.grown ox g14 | skip)
    (first | replace oy := OwnF.grown oy g14 | skip)
    (first | replace og := OwnF.grown og g14 | skip)
    (first | replace oh := OwnF.grown oh g14 | skip)
    replace G := grown_trans G g14
    clear g14
    go_wp2_with fail
    refine (heldFlowS_any _ _ _ _ 1 (OwnF.at oy).1 (by omega) (by omega) (by omega)).mono ?_
    rintro e w15 ⟨rfl, rfl⟩
    go_wp2_with fail
    go_ret
    exact ⟨rfl, G⟩
set_option maxHeartbeats 2000000 in
theorem fnExactViewSame_walk (ao : Option Addr) (n cap : Nat) (fs : List F3) (bo : Option Addr) (m cap' : Nat) (gs : List F3) (w : World) (hI : FlowsIn w ao n cap fs) (hJ : FlowsIn w bo m cap' gs) :
    Calls Try.prog 8 #[.slice ao n cap, .slice bo m cap'] w fun e w' => e = .returned (.bool true) ∧ w.grownBy w' none := by
  have hm := hI.at_.max
  have hnm := hI.at_.le
  have hm' := hJ.at_.max
  have hnm' := hJ.at_.le
  have HA := Lib.hid hI.at_
  have HW := Lib.hid hI.wf
  have HN := Lib.hid hI.at_.len
  have HB := Lib.hid hJ.at_
  have HX := Lib.hid hJ.wf
  have HM := Lib.hid hJ.at_.len
  go_enter Try.func8, Try.ntmps8
  go_wp2_with fail
  refine (szFlowS_any _ _ _ _ _ (by omega) (by omega) (by omega)).mono ?_
  rintro e w1 ⟨rfl, rfl⟩
  by_cases hn : (1048576 : Int) < n
  · rw [if_pos hn]
    go_wp2
    go_ret
    exact ⟨rfl, grown_refl _ _⟩
  rw [if_neg hn]
  have hn2 : ¬ (1048576 : Int) - n < 0 := by omega
  obtain ⟨l1, hl1⟩ : ∃ l : Int, (1048576 : Int) - n = l := ⟨_, rfl⟩
  rw [hl1] at hn2 ⊢
  go_wp2_with fail
  refine (szFlowS_any _ _ _ _ _ (by omega) (by omega) (by omega)).mono ?_
  rintro e w1 ⟨rfl, rfl⟩
  by_cases hk : l1 < (m : Int)
  · rw [if_pos hk]
    go_wp2
    go_ret
    exact ⟨rfl, grown_refl _ _⟩
  rw [if_neg hk]
  have hk2 : ¬ l1 - (m : Int) < 0 := by omega
  have G := grown_refl w none
  obtain ⟨b, hb⟩ : ∃ b, pb (SameP fs gs) = b := ⟨_, rfl⟩
  have HBB := Lib.hid hb
  have bb : (b != b) = false := by cases b <;> rfl
  clear hb
  go_wp2_with fail
  refine (toFlowS_any _ _ _ _ _ (HA.out) (by omega)).mono ?_
  rintro e w1 ⟨a1, rfl, o1, g1⟩
  obtain ⟨a1, c1, rfl, -⟩ := OwnF.shape o1
  rw [HN.out] at o1 ⊢
  (first | replace ow := OwnF.grown ow g1 | skip)
  (first | replace ox := OwnF.grown ox g1 | skip)
  (first | replace oy := OwnF.grown oy g1 | skip)
  (first | replace og := OwnF.grown og g1 | skip)
  (first | replace oh := OwnF.grown oh g1 | skip)
  replace G := grown_trans G g1
  go_wp2_with fail
  refine (toFlowS_any _ _ _ _ _ (HB.out.grown G) (by omega)).mono ?_
  rintro e w2 ⟨a2, rfl, o2, g2⟩
  obtain ⟨a2, c2, rfl, -⟩ := OwnF.shape o2
  rw [HM.out] at o2 ⊢
  replace o1 := OwnF.grown o1 g2
  (first | replace ow := OwnF.grown ow g2 | skip)
  (first | replace ox := OwnF.grown ox g2 | skip)
  (first | replace oy := OwnF.grown oy g2 | skip)
  (first | replace og := OwnF.grown og g2 | skip)
  (first | replace oh := OwnF.grown oh g2 | skip)
  replace G := grown_trans G g2
  clear g1 g2
  go_wp2_with fail
  refine (viewSameS_any _ _ _ _ fs _ _ _ gs (OwnF.at o1).1 (OwnF.at o2).1).mono ?_
  rintro e w3 ⟨rfl, g3⟩
  rw [HBB.out]
  (first | replace ow := OwnF.grown ow g3 | skip)
  (first | replace ox := OwnF.grown ox g3 | skip)
  (first | replace oy := OwnF.grown oy g3 | skip)
  (first | replace og := OwnF.grown og g3 | skip)
  (first | replace oh := OwnF.grown oh g3 | skip)
  replace G := grown_trans G g3
  clear o1 o2 g3
  go_wp2_with fail
  refine (toFlowS_any _ _ _ _ _ (HA.out.grown G) (by omega)).mono ?_
  rintro e w4 ⟨a4, rfl, ox, g4⟩
  obtain ⟨a4, c4, rfl, -⟩ := OwnF.shape ox
  rw [HN.out] at ox ⊢
  replace G := grown_trans G g4
  clear g4
  go_wp2_with fail
  refine (toFlowS_any _ _ _ _ _ (HB.out.grown G) (by omega)).mono ?_
  rintro e w5 ⟨a5, rfl, oy, g5⟩
  obtain ⟨a5, c5, rfl, -⟩ := OwnF.shape oy
  rw [HM.out] at oy ⊢
  replace ox := OwnF.grown ox g5
  replace G := grown_trans G g5
  clear g5
  go_wp2_with fail
  refine (viewSame_any _ _ _ _ fs _ _ _ gs (OwnF.at ox).1 (OwnF.at oy).1 HW.out HX.out).mono ?_
  rintro e w6 ⟨rfl, g6⟩
  rw [HBB.out]
  (first | replace ow := OwnF.grown ow g6 | skip)
  (first | replace ox := OwnF.grown ox g6 | skip)
  (first | replace oy := OwnF.grown oy g6 | skip)
  (first | replace og := OwnF.grown og g6 | skip)
  (first | replace oh := OwnF.grown oh g6 | skip)
  replace G := grown_trans G g6
  clear g6
  go_wp2_with fail
  refine (toFlowS_any _ _ _ _ _ (HA.out.grown G) (by omega)).mono ?_
  rintro e w7 ⟨a7, rfl, o7, g7⟩
  obtain ⟨a7, c7, rfl, -⟩ := OwnF.shape o7
  rw [HN.out] at o7 ⊢
  (first | replace ow := OwnF.grown ow g7 | skip)
  (first | replace ox := OwnF.grown ox g7 | skip)
  (first | replace oy := OwnF.grown oy g7 | skip)
  (first | replace og := OwnF.grown og g7 | skip)
  (first | replace oh := OwnF.grown oh g7 | skip)
  replace G := grown_trans G g7
  clear g7
  go_wp2_with fail
  refine (eqFlowS_same _ _ _ _ _ _ fs (OwnF.at ox).1 (OwnF.at o7).1).mono ?_
  rintro e w8 ⟨rfl, g8⟩
  (first | replace ow := OwnF.grown ow g8 | skip)
  (first | replace ox := OwnF.grown ox g8 | skip)
  (first | replace oy := OwnF.grown oy g8 | skip)
  (first | replace og := OwnF.grown og g8 | skip)
  (first | replace oh := OwnF.grown oh g8 | skip)
  replace G := grown_trans G g8
  clear g8 o7
  go_wp2_with fail
  refine (toFlowS_any _ _ _ _ _ (HB.out.grown G) (by omega)).mono ?_
  rintro e w9 ⟨a9, rfl, o9, g9⟩
  obtain ⟨a9, c9, rfl, -⟩ := OwnF.shape o9
  rw [HM.out] at o9 ⊢
  (first | replace ow := OwnF.grown ow g9 | skip)
  (first | replace ox := OwnF.grown ox g9 | skip)
  (first | replace oy := OwnF.grown oy g9 | skip)
  (first | replace og := OwnF.grown og g9 | skip)
  (first | replace oh := OwnF.grown oh g9 | skip)
  replace G := grown_trans G g9
  clear g9
  go_wp2_with fail
  refine (eqFlowS_same _ _ _ _ _ _ gs (OwnF.at oy).1 (OwnF.at o9).1).mono ?_
  rintro e wA ⟨rfl, gA⟩
  (first | replace ow := OwnF.grown ow gA | skip)
  (first | replace ox := OwnF.grown ox gA | skip)
  (first | replace oy := OwnF.grown oy gA | skip)
  (first | replace og := OwnF.grown og gA | skip)
  (first | replace oh := OwnF.grown oh gA | skip)
  replace G := grown_trans G gA
  clear gA o9
  go_wp2_with fail
  go_ret
  exact ⟨rfl, G⟩
end Go.Proofs.Ytolifggjblfobaa
