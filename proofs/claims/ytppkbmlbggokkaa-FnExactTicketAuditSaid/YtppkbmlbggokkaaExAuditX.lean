/- The walk of FnExactTicketAudit. -/
import Derived.Test.YtppkbmlbggokkaaExAuditW
import Derived.WalkKit
import Derived.Lib.Hide
import Derived.Deep.QuietTactic
import Derived.BigQuiet
namespace Go.Proofs.Ytppkbmlbggokkaa
open Go.RowKit
set_option maxHeartbeats 2000000 in
theorem fnExactTicketAudit_walk (ao : Option Addr) (n cap : Nat) (xs : List Int) (bo : Option Addr) (m cap' : Nat) (ys : List Int) (w : World) (hA : IntsAt w ao n cap xs) (hB : IntsAt w bo m cap' ys) :
    Calls Try.prog 7 #[.slice ao n cap, .slice bo m cap'] w fun e w' => e = .returned (.bool true) ∧ w.grownBy w' none := by
  by_cases a : (1048576 : Int) < n
  · go_enter Try.func7, Try.ntmps7
    go_wp2
    go_ret
    exact ⟨rfl, grown_refl _ _⟩
  · by_cases b : (1048576 : Int) < m
    · go_enter Try.func7, Try.ntmps7
      go_wp2
      go_ret
      exact ⟨rfl, grown_refl _ _⟩
    · have Hn := Lib.hid hA.len
      have Hm := Lib.hid hB.len
      obtain ⟨L, hL⟩ : ∃ L, auditL xs ys = L := ⟨_, rfl⟩
      have HL := Lib.hid hL
      have hLl : L.length ≤ 20 := by rw [← hL]; exact audit_length xs ys
      clear hL
      have hxl : xs.length ≤ 1048576 := by have := Hn.out; omega
      have hyl : ys.length ≤ 1048576 := by have := Hm.out; omega
      go_enter Try.func7, Try.ntmps7
      go_wp2_with fail
      refine (toIntS_any _ _ _ _ _ (hA) (by omega)).mono ?_
      rintro e w1 ⟨a1, c1, rfl, o1, g1⟩
      go_wp2_with fail
      refine (toIntS_any _ _ _ _ _ (hB.grown g1) (by omega)).mono ?_
      rintro e w2 ⟨a2, c2, rfl, o2, g2⟩
      go_wp2_with fail
      refine (ticketAuditS_any _ _ _ _ xs _ _ _ ys (o1.grown g2).ints.1 o2.ints.1 (by omega)).mono ?_
      rintro e w3 ⟨aw, cw, rfl, ow, g3⟩
      rw [HL.out] at ow ⊢
      have G := grown_trans (grown_trans g1 g2) g3
      have bw := ow.blockIn
      have z2 := (grown_trans g1 g2).size
      clear o1 o2 g1 g2 g3
      go_wp2_with fail
      refine (toIntS_any _ _ _ _ _ (hA.grown G) (by omega)).mono ?_
      rintro e w4 ⟨ax, cx, rfl, ox, g4⟩
      have bx := ox.blockIn
      have z3 := G.size
      have z4 := g4.size
      (first | replace ow := ow.grown g4 | skip)
      (first | replace ox := ox.grown g4 | skip)
      (first | replace oy := oy.grown g4 | skip)
      (first | replace og := og.grown g4 | skip)
      replace G := grown_trans G g4
      clear g4
      go_wp2_with fail
      refine (toIntS_any _ _ _ _ _ (hB.grown G) (by omega)).mono ?_
      rintro e w5 ⟨ay, cy, rfl, oy, g5⟩
      have by_ := oy.blockIn
      have z5 := g5.size
      (first | replace ow := ow.grown g5 | skip)
      (first | replace ox := ox.grown g5 | skip)
      (first | replace oy := oy.grown g5 | skip)
      (first | replace og := og.grown g5 | skip)
      replace G := grown_trans G g5
      clear g5
      go_wp2_with fail
      refine (ticketAudit_any _ _ _ _ xs _ _ _ ys ox.ints.1 oy.ints.1 (fun a e => (oy.ints.2.2 a e).2)).mono ?_
      rintro e w6 ⟨ag, cg, rfl, og, g6⟩
      rw [HL.out] at og ⊢
      have bg := og.blockIn
      (first | replace ow := ow.grown g6 | skip)
      (first | replace ox := ox.grown g6 | skip)
      (first | replace oy := oy.grown g6 | skip)
      (first | replace og := og.grown g6 | skip)
      replace G := grown_trans G g6
      clear g6
      go_wp2_with fail
      refine (eqIntS_any _ _ _ _ L _ _ _ L og.ints.1 ow.ints.1).mono ?_
      rintro e w7 ⟨rfl, g7⟩
      rw [pb_true (p := L = L) rfl]
      replace g7 := drewN_grown g7 none
      (first | replace ow := ow.grown g7 | skip)
      (first | replace ox := ox.grown g7 | skip)
      (first | replace oy := oy.grown g7 | skip)
      (first | replace og := og.grown g7 | skip)
      replace G := grown_trans G g7
      clear g7
      go_wp2_with fail
      refine (toIntS_any _ _ _ _ _ (hA.grown G) (by omega)).mono ?_
      rintro e w8 ⟨a8, c8, rfl, o8, g8⟩
      (first | replace ow := ow.grown g8 | skip)
      (first | replace ox := ox.grown g8 | skip)
      (first | replace oy := oy.grown g8 | skip)
      (first | replace og := og.grown g8 | skip)
      replace G := grown_trans G g8
      clear g8
      go_wp2_with fail
      refine (eqIntS_any _ _ _ _ xs _ _ _ xs ox.ints.1 o8.ints.1).mono ?_
      rintro e w9 ⟨rfl, g9⟩
      rw [pb_true (p := xs = xs) rfl]
      replace g9 := drewN_grown g9 none
      (first | replace ow := ow.grown g9 | skip)
      (first | replace ox := ox.grown g9 | skip)
      (first | replace oy := oy.grown g9 | skip)
      (first | replace og := og.grown g9 | skip)
      replace G := grown_trans G g9
      clear g9 o8
      go_wp2_with fail
      refine (toIntS_any _ _ _ _ _ (hB.grown G) (by omega)).mono ?_
      rintro e w10 ⟨a10, c10, rfl, o10, g10⟩
      (first | replace ow := ow.grown g10 | skip)
      (first | replace ox := ox.grown g10 | skip)
      (first | replace oy := oy.grown g10 | skip)
      (first | replace og := og.grown g10 | skip)
      replace G := grown_trans G g10
      clear g10
      go_wp2_with fail
      refine (eqIntS_any _ _ _ _ ys _ _ _ ys oy.ints.1 o10.ints.1).mono ?_
      rintro e w11 ⟨rfl, g11⟩
      rw [pb_true (p := ys = ys) rfl]
      replace g11 := drewN_grown g11 none
      (first | replace ow := ow.grown g11 | skip)
      (first | replace ox := ox.grown g11 | skip)
      (first | replace oy := oy.grown g11 | skip)
      (first | replace og := og.grown g11 | skip)
      replace G := grown_trans G g11
      clear g11 o10
      go_wp2_with fail
      refine (markIntS_any _ _ _ _ _ xs 1 ox rfl (by omega) (by omega) (by omega)).mono ?_
      rintro e w12 ⟨rfl, g12, _⟩
      replace ow := ow.other g12 (.inl ⟨fun k e => (bw k e).2, fun k e => (bx k e).1⟩)
      replace oy := oy.other g12 (.inr ⟨fun k e => (by_ k e).1, fun k e => (bx k e).2⟩)
      replace og := og.other g12 (.inr ⟨fun k e => (bg k e).1, fun k e => Nat.lt_of_lt_of_le (bx k e).2 z5⟩)
      replace G := grown_mark G ox g12 z3
      clear g12 ox
      go_wp2_with fail
      refine (markIntS_any _ _ _ _ _ ys _ oy rfl (by omega) (by omega) (by omega)).mono ?_
      rintro e w13 ⟨rfl, g13, _⟩
      replace ow := ow.other g13 (.inl ⟨fun k e => (bw k e).2, fun k e => Nat.le_trans z4 (by_ k e).1⟩)
      replace og := og.other g13 (.inr ⟨fun k e => (bg k e).1, fun k e => (by_ k e).2⟩)
      replace G := grown_mark G oy g13 (by omega)
      clear g13 oy
      go_wp2_with fail
      refine (eqIntS_any _ _ _ _ L _ _ _ L og.ints.1 ow.ints.1).mono ?_
      rintro e w14 ⟨rfl, g14⟩
      rw [pb_true (p := L = L) rfl]
      replace g14 := drewN_grown g14 none
      (first | replace ow := ow.grown g14 | skip)
      (first | replace ox := ox.grown g14 | skip)
      (first | replace oy := oy.grown g14 | skip)
      (first | replace og := og.grown g14 | skip)
      replace G := grown_trans G g14
      clear g14
      go_wp2_with fail
      refine (markIntS_any _ _ _ _ _ L 1 og rfl (by omega) (by omega) (by omega)).mono ?_
      rintro e w15 ⟨rfl, g15, om⟩
      replace ow := ow.other g15 (.inl ⟨fun k e => Nat.lt_of_lt_of_le (bw k e).2 (Nat.le_trans z4 z5), fun k e => (bg k e).1⟩)
      replace G := grown_mark G og g15 (by omega)
      clear g15 og
      go_wp2_with fail
      refine (heldIntS_any _ _ _ _ 1 om.ints.1 (by omega) (by omega) (by omega)).mono ?_
      rintro e w16 ⟨rfl, rfl⟩
      go_wp2_with fail
      refine (toIntS_any _ _ _ _ _ (hA.grown G) (by omega)).mono ?_
      rintro e w17 ⟨a17, c17, rfl, o17, g17⟩
      replace om := om.grown g17
      (first | replace ow := ow.grown g17 | skip)
      (first | replace ox := ox.grown g17 | skip)
      (first | replace oy := oy.grown g17 | skip)
      (first | replace og := og.grown g17 | skip)
      replace G := grown_trans G g17
      go_wp2_with fail
      refine (toIntS_any _ _ _ _ _ (hB.grown G) (by omega)).mono ?_
      rintro e w18 ⟨a18, c18, rfl, o18, g18⟩
      replace om := om.grown g18
      replace o17 := o17.grown g18
      (first | replace ow := ow.grown g18 | skip)
      (first | replace ox := ox.grown g18 | skip)
      (first | replace oy := oy.grown g18 | skip)
      (first | replace og := og.grown g18 | skip)
      replace G := grown_trans G g18
      go_wp2_with fail
      refine (ticketAudit_any _ _ _ _ xs _ _ _ ys o17.ints.1 o18.ints.1 (fun a e => (o18.ints.2.2 a e).2)).mono ?_
      rintro e w19 ⟨ah, ch, rfl, oh, g19⟩
      rw [HL.out] at oh ⊢
      replace om := om.grown g19
      (first | replace ow := ow.grown g19 | skip)
      (first | replace ox := ox.grown g19 | skip)
      (first | replace oy := oy.grown g19 | skip)
      (first | replace og := og.grown g19 | skip)
      replace G := grown_trans G g19
      clear g17 g18 g19 o17 o18
      go_wp2_with fail
      refine (eqIntS_any _ _ _ _ L _ _ _ L oh.ints.1 ow.ints.1).mono ?_
      rintro e w20 ⟨rfl, g20⟩
      rw [pb_true (p := L = L) rfl]
      replace g20 := drewN_grown g20 none
      replace om := om.grown g20
      (first | replace ow := ow.grown g20 | skip)
      (first | replace ox := ox.grown g20 | skip)
      (first | replace oy := oy.grown g20 | skip)
      (first | replace og := og.grown g20 | skip)
      replace G := grown_trans G g20
      clear g20
      go_wp2_with fail
      refine (heldIntS_any _ _ _ _ 1 om.ints.1 (by omega) (by omega) (by omega)).mono ?_
      rintro e w21 ⟨rfl, rfl⟩
      go_wp2_with fail
      go_ret
      exact ⟨rfl, G⟩
end Go.Proofs.Ytppkbmlbggokkaa
