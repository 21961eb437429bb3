/- The walk of FnExactBatchFlows. -/
import Derived.Test.YtolifggjblfobaaExFW
import Derived.Test.YtolifggjblfobaaBatX
import Derived.WalkKit
import Derived.Lib.Hide
import Derived.Deep.QuietTactic
import Derived.BigQuiet
namespace Go.Proofs.Ytolifggjblfobaa
open Go.RowKit
theorem OwnF.otherV {B M : Nat} {w w' : World} {v : Value} {xs : List F3} {row : Option Nat} (h : OwnF B w v xs) (g : w.grownBy w' row) (hv : (∀ k, v.ownBlock = some k → k < M) ∧ (∀ k, row = some k → M ≤ k) ∨ (∀ k, v.ownBlock = some k → M ≤ k) ∧ (∀ k, row = some k → k < M)) : OwnF B w' v xs := by
  refine OwnF.apart h g ?_
  cases hb : v.ownBlock with
  | none => exact .inl rfl
  | some k =>
    refine .inr fun e => ?_
    rcases hv with ⟨a, b⟩ | ⟨a, b⟩
    · have := a k hb; have := b k e.symm; omega
    · have := a k hb; have := b k e.symm; omega
theorem batch_len (ss rs : List Int) (c : Int) : (batchL ss rs c).length ≤ 16 := by
  by_cases h : BatchP ss rs c
  · rw [batchL_yes h, batchR_len h]; exact h.2.1
  · rw [batchL_no h]; simp
set_option maxHeartbeats 2000000 in
theorem fnExactBatchFlows_walk (ao : Option Addr) (n cap : Nat) (xs : List Int) (bo : Option Addr) (m cap' : Nat) (ys : List Int) (c : Int) (w : World) (hA : IntsAt w ao n cap xs) (hB : IntsAt w bo m cap' ys) :
    Calls Try.prog 13 #[.slice ao n cap, .slice bo m cap', .int .i64 c] w fun e w' => e = .returned (.bool true) ∧ w.grownBy w' none := by
  by_cases a : (1048576 : Int) < n
  · go_enter Try.func13, Try.ntmps13
    go_wp2
    go_ret
    exact ⟨rfl, grown_refl _ _⟩
  by_cases b : (1048576 : Int) < m
  · go_enter Try.func13, Try.ntmps13
    go_wp2
    go_ret
    exact ⟨rfl, grown_refl _ _⟩
  have Hn := Lib.hid hA.len
  have Hm := Lib.hid hB.len
  obtain ⟨L, hL⟩ : ∃ L, batchL xs ys c = L := ⟨_, rfl⟩
  have HL := Lib.hid hL
  have hLl : L.length ≤ 16 := by rw [← hL]; exact batch_len xs ys c
  clear hL
  have hxl : xs.length ≤ 1048576 := by have := Hn.out; omega
  have hyl : ys.length ≤ 1048576 := by have := Hm.out; omega
  go_enter Try.func13, Try.ntmps13
  go_wp2_with fail
  refine (toIntS_any _ _ _ _ _ (hA) (by omega)).mono ?_
  rintro e w1 ⟨a1, c1, rfl, o1, g1⟩
  go_wp2_with fail
  refine (toIntS_any _ _ _ _ _ (hB.grown g1) (by omega)).mono ?_
  rintro e w2 ⟨a2, c2, rfl, o2, g2⟩
  go_wp2_with fail
  refine (batchFlowsS_any _ _ _ _ xs _ _ _ ys c (o1.grown g2).ints.1 o2.ints.1 (by omega) (by omega)).mono ?_
  rintro e w3 ⟨vw, rfl, ow, g3⟩
  rw [HL.out] at ow
  obtain ⟨aw, cw, rfl, -⟩ := OwnF.shape ow
  have G := grown_trans (grown_trans g1 g2) g3
  have bw := ow.bound
  have z2 := (grown_trans g1 g2).size
  clear o1 o2 g1 g2 g3
  go_wp2_with fail
  refine (toIntS_any _ _ _ _ _ (hA.grown G) (by omega)).mono ?_
  rintro e w4 ⟨ax, cx, rfl, ox, g4⟩
  have bx := ox.blockIn
  have z3 := G.size
  have z4 := g4.size
  (first | replace ow := OwnF.grown ow g4 | skip)
  (first | replace og := OwnF.grown og g4 | skip)
  (first | replace oh := OwnF.grown oh g4 | skip)
  (first | replace oz := OwnF.grown oz g4 | skip)
  (first | replace ox := OwnI.grown ox g4 | skip)
  (first | replace oy := OwnI.grown oy g4 | skip)
  replace G := grown_trans G g4
  clear g4
  go_wp2_with fail
  refine (toIntS_any _ _ _ _ _ (hB.grown G) (by omega)).mono ?_
  rintro e w5 ⟨ay, cy, rfl, oy, g5⟩
  have by_ := oy.blockIn
  have z5 := g5.size
  (first | replace ow := OwnF.grown ow g5 | skip)
  (first | replace og := OwnF.grown og g5 | skip)
  (first | replace oh := OwnF.grown oh g5 | skip)
  (first | replace oz := OwnF.grown oz g5 | skip)
  (first | replace ox := OwnI.grown ox g5 | skip)
  (first | replace oy := OwnI.grown oy g5 | skip)
  replace G := grown_trans G g5
  clear g5
  go_wp2_with fail
  refine (batchFlows_any _ _ _ _ xs _ _ _ ys c ox.ints.1 oy.ints.1 (by omega) (by omega)).mono ?_
  rintro e w6 ⟨vg, rfl, og, g6⟩
  rw [HL.out] at og
  obtain ⟨ag, cg, rfl, -⟩ := OwnF.shape og
  have bg := og.bound
  (first | replace ow := OwnF.grown ow g6 | skip)
  (first | replace og := OwnF.grown og g6 | skip)
  (first | replace oh := OwnF.grown oh g6 | skip)
  (first | replace oz := OwnF.grown oz g6 | skip)
  (first | replace ox := OwnI.grown ox g6 | skip)
  (first | replace oy := OwnI.grown oy g6 | skip)
  replace G := grown_trans G g6
  clear g6
  go_wp2_with fail
  refine (eqFlowS_same _ _ _ _ _ _ L (OwnF.at og).1 (OwnF.at ow).1).mono ?_
  rintro e w7 ⟨rfl, g7⟩
  (first | replace ow := OwnF.grown ow g7 | skip)
  (first | replace og := OwnF.grown og g7 | skip)
  (first | replace oh := OwnF.grown oh g7 | skip)
  (first | replace oz := OwnF.grown oz g7 | skip)
  (first | replace ox := OwnI.grown ox g7 | skip)
  (first | replace oy := OwnI.grown oy g7 | skip)
  replace G := grown_trans G g7
  clear g7
  go_wp2_with fail
  refine (toIntS_any _ _ _ _ _ (hA.grown G) (by omega)).mono ?_
  rintro e w8 ⟨a8, c8, rfl, o8, g8⟩
  (first | replace ow := OwnF.grown ow g8 | skip)
  (first | replace og := OwnF.grown og g8 | skip)
  (first | replace oh := OwnF.grown oh g8 | skip)
  (first | replace oz := OwnF.grown oz g8 | skip)
  (first | replace ox := OwnI.grown ox g8 | skip)
  (first | replace oy := OwnI.grown oy g8 | skip)
  replace G := grown_trans G g8
  clear g8
  go_wp2_with fail
  refine (eqIntS_any _ _ _ _ xs _ _ _ xs ox.ints.1 o8.ints.1).mono ?_
  rintro e w9 ⟨rfl, g9⟩
  rw [pb_true (p := xs = xs) rfl]
  replace g9 := drewN_grown g9 none
  (first | replace ow := OwnF.grown ow g9 | skip)
  (first | replace og := OwnF.grown og g9 | skip)
  (first | replace oh := OwnF.grown oh g9 | skip)
  (first | replace oz := OwnF.grown oz g9 | skip)
  (first | replace ox := OwnI.grown ox g9 | skip)
  (first | replace oy := OwnI.grown oy g9 | skip)
  replace G := grown_trans G g9
  clear g9 o8
  go_wp2_with fail
  refine (toIntS_any _ _ _ _ _ (hB.grown G) (by omega)).mono ?_
  rintro e w10 ⟨a10, c10, rfl, o10, g10⟩
  (first | replace ow := OwnF.grown ow g10 | skip)
  (first | replace og := OwnF.grown og g10 | skip)
  (first | replace oh := OwnF.grown oh g10 | skip)
  (first | replace oz := OwnF.grown oz g10 | skip)
  (first | replace ox := OwnI.grown ox g10 | skip)
  (first | replace oy := OwnI.grown oy g10 | skip)
  replace G := grown_trans G g10
  clear g10
  go_wp2_with fail
  refine (eqIntS_any _ _ _ _ ys _ _ _ ys oy.ints.1 o10.ints.1).mono ?_
  rintro e w11 ⟨rfl, g11⟩
  rw [pb_true (p := ys = ys) rfl]
  replace g11 := drewN_grown g11 none
  (first | replace ow := OwnF.grown ow g11 | skip)
  (first | replace og := OwnF.grown og g11 | skip)
  (first | replace oh := OwnF.grown oh g11 | skip)
  (first | replace oz := OwnF.grown oz g11 | skip)
  (first | replace ox := OwnI.grown ox g11 | skip)
  (first | replace oy := OwnI.grown oy g11 | skip)
  replace G := grown_trans G g11
  clear g11 o10
  go_wp2_with fail
  refine (markIntS_any _ _ _ _ _ xs 1 ox rfl (by omega) (by omega) (by omega)).mono ?_
  rintro e w12 ⟨rfl, g12, _⟩
  replace ow := ow.otherV (M := w3.heap.size) g12 (.inl ⟨fun k e => (bw k e).2, fun k e => (bx k e).1⟩)
  replace oy := oy.other g12 (.inr ⟨fun k e => (by_ k e).1, fun k e => (bx k e).2⟩)
  replace og := og.otherV (M := w5.heap.size) g12 (.inr ⟨fun k e => (bg k e).1, fun k e => Nat.lt_of_lt_of_le (bx k e).2 z5⟩)
  replace G := grown_mark G ox g12 z3
  clear g12 ox
  go_wp2_with fail
  refine (markIntS_any _ _ _ _ _ ys _ oy rfl (by omega) (by omega) (by omega)).mono ?_
  rintro e w13 ⟨rfl, g13, _⟩
  replace ow := ow.otherV (M := w4.heap.size) g13 (.inl ⟨fun k e => Nat.lt_of_lt_of_le (bw k e).2 z4, fun k e => (by_ k e).1⟩)
  replace og := og.otherV (M := w5.heap.size) g13 (.inr ⟨fun k e => (bg k e).1, fun k e => (by_ k e).2⟩)
  replace G := grown_mark G oy g13 (by omega)
  clear g13 oy
  go_wp2_with fail
  refine (eqFlowS_same _ _ _ _ _ _ L (OwnF.at og).1 (OwnF.at ow).1).mono ?_
  rintro e w14 ⟨rfl, g14⟩
  (first | replace ow := OwnF.grown ow g14 | skip)
  (first | replace og := OwnF.grown og g14 | skip)
  (first | replace oh := OwnF.grown oh g14 | skip)
  (first | replace oz := OwnF.grown oz g14 | skip)
  (first | replace ox := OwnI.grown ox g14 | skip)
  (first | replace oy := OwnI.grown oy g14 | skip)
  replace G := grown_trans G g14
  clear g14
  go_wp2_with fail
  refine (markFlowS_any _ _ _ _ _ L 1 og rfl (by omega) (by omega) (by omega)).mono ?_
  rintro e w15 ⟨rfl, g15, oz⟩
  replace ow := ow.otherV (M := w5.heap.size) g15 (.inl ⟨fun k e => Nat.lt_of_lt_of_le (bw k e).2 (Nat.le_trans z4 z5), fun k e => (bg k e).1⟩)
  replace G := grownF_own G og g15 (by omega)
  clear g15 og
  go_wp2_with fail
  refine (heldFlowS_any _ _ _ _ 1 (OwnF.at oz).1 (by omega) (by omega) (by omega)).mono ?_
  rintro e w16 ⟨rfl, rfl⟩
  have p16 : ¬ (1 : Int) + 3 * (L.length : Int) < 0 := by omega
  go_wp2_with fail
  refine (toIntS_any _ _ _ _ _ (hA.grown G) (by omega)).mono ?_
  rintro e w17 ⟨a17, c17, rfl, o17, g17⟩
  (first | replace ow := OwnF.grown ow g17 | skip)
  (first | replace og := OwnF.grown og g17 | skip)
  (first | replace oh := OwnF.grown oh g17 | skip)
  (first | replace oz := OwnF.grown oz g17 | skip)
  (first | replace ox := OwnI.grown ox g17 | skip)
  (first | replace oy := OwnI.grown oy g17 | skip)
  replace G := grown_trans G g17
  clear g17
  go_wp2_with fail
  refine (toIntS_any _ _ _ _ _ (hB.grown G) (by omega)).mono ?_
  rintro e w18 ⟨a18, c18, rfl, o18, g18⟩
  replace o17 := OwnI.grown o17 g18
  (first | replace ow := OwnF.grown ow g18 | skip)
  (first | replace og := OwnF.grown og g18 | skip)
  (first | replace oh := OwnF.grown oh g18 | skip)
  (first | replace oz := OwnF.grown oz g18 | skip)
  (first | replace ox := OwnI.grown ox g18 | skip)
  (first | replace oy := OwnI.grown oy g18 | skip)
  replace G := grown_trans G g18
  clear g18
  go_wp2_with fail
  refine (batchFlows_any _ _ _ _ xs _ _ _ ys c o17.ints.1 o18.ints.1 (by omega) (by omega)).mono ?_
  rintro e w19 ⟨vh, rfl, oh, g19⟩
  rw [HL.out] at oh
  obtain ⟨ah, ch, rfl, -⟩ := OwnF.shape oh
  replace ow := OwnF.grown ow g19
  replace oz := OwnF.grown oz g19
  replace G := grown_trans G g19
  clear g19 o17 o18
  go_wp2_with fail
  refine (eqFlowS_same _ _ _ _ _ _ L (OwnF.at oh).1 (OwnF.at ow).1).mono ?_
  rintro e w20 ⟨rfl, g20⟩
  (first | replace ow := OwnF.grown ow g20 | skip)
  (first | replace og := OwnF.grown og g20 | skip)
  (first | replace oh := OwnF.grown oh g20 | skip)
  (first | replace oz := OwnF.grown oz g20 | skip)
  (first | replace ox := OwnI.grown ox g20 | skip)
  (first | replace oy := OwnI.grown oy g20 | skip)
  replace G := grown_trans G g20
  clear g20
  go_wp2_with fail
  refine (heldFlowS_any _ _ _ _ 1 (OwnF.at oz).1 (by omega) (by omega) (by omega)).mono ?_
  rintro e w21 ⟨rfl, rfl⟩
  go_wp2_with fail
  go_ret
  exact ⟨rfl, G⟩
end Go.Proofs.Ytolifggjblfobaa
