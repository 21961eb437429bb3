/- The walk of FnExactTicketSpend. -/
import Derived.Test.YtppkbmlbggokkaaDoorSpendS
import Derived.WalkKit
import Derived.Lib.Hide
import Derived.Deep.QuietTactic
import Derived.BigQuiet
import Derived.Deep.RegionHeld3
namespace Go.Proofs.YtppkbmlbggokkaaDoor
open Go.RowKit
theorem spL_len (xs : List Int) (p s g : Int) : (spL xs p s g).length ≤ 20 := by
  by_cases h : SpentP xs
  · by_cases k : GoodP xs p s g
    · rw [spL_yes h k, insL_len]; have := k.2; omega
    · rw [spL_no h k]; exact h.1
  · rw [spL_bad h]; simp
set_option maxHeartbeats 4000000 in
theorem fnExactTicketSpend_walk (ao : Option Addr) (n cap : Nat) (xs : List Int) (p s g : Int) (w : World) (hA : IntsAt w ao n cap xs) (he : RefAt w) :
    Calls Tryd.prog 4 #[.slice ao n cap, .int .i64 p, .agg #[.int .i64 s, .int .i64 g]] w fun e w' => e = .returned (.bool true) ∧ w.grownBy w' none := by
  by_cases a : (1048576 : Int) < n
  · go_enter Tryd.func4, Tryd.ntmps4
    go_wp2
    go_ret
    exact ⟨rfl, grown_alloc _ _ _⟩
  · have Hn := Lib.hid hA.len
    obtain ⟨L, hL⟩ : ∃ L, spL xs p s g = L := ⟨_, rfl⟩
    have HL := Lib.hid hL
    have hLl : L.length ≤ 20 := by rw [← hL]; exact spL_len xs p s g
    clear hL
    obtain ⟨b, hb⟩ : ∃ b, pb (SpendP xs p s g) = b := ⟨_, rfl⟩
    have HB := Lib.hid hb
    have bb : (b != b) = false := by cases b <;> rfl
    clear hb
    have hxl : xs.length ≤ 1048576 := by have := Hn.out; omega
    have hxn : n ≤ 1000000000 := by omega
    have G0 := Lib.hid (grown_alloc w (.cells #[.int .i64 s, .int .i64 g] 34) none)
    have D0 := Lib.hid (show (w.alloc (.cells #[.int .i64 s, .int .i64 g] 34)).heap[w.heap.size]? = some (.cells #[.int .i64 s, .int .i64 g] 34) from heap_alloc_new w _)
    have A0 := Lib.hid (show IntsAt (w.alloc (.cells #[.int .i64 s, .int .i64 g] 34)).drew ao n cap xs from hA.grown (gDrew G0.out))
    have HA := Lib.hid (hA.grown G0.out)
    have HE := Lib.hid (he.grown G0.out)
    have c0 : (w.alloc (.cells #[.int .i64 s, .int .i64 g] 34)).drew.cell? ⟨w.heap.size, 0, none⟩ = some (.int .i64 s) := blkC D0.out 0 rfl
    have c1 : (w.alloc (.cells #[.int .i64 s, .int .i64 g] 34)).drew.cell? ⟨w.heap.size, 1, none⟩ = some (.int .i64 g) := blkC D0.out 1 rfl
    go_enter Tryd.func4, Tryd.ntmps4
    go_wp2_with fail
    go_region_held3 (fun w' => w'.cell? ⟨w.heap.size, 0, none⟩ = some (.int .i64 s) ∧ w'.cell? ⟨w.heap.size, 1, none⟩ = some (.int .i64 g)) (first | go_keep | exact ⟨ex, ey⟩ | exact ⟨fx, fy⟩ | exact ⟨hx, hy⟩)
      (first
        | (go_at_call 16; refine (toIntS_any _ _ _ _ xs A0.out (by omega)).mono ?_; rintro e w1 ⟨a1, k1, rfl, o1, g1⟩; have ex := g1.cell c0 (by simp); have ey := g1.cell c1 (by simp))
        | (go_at_call 17; refine (toTicket_any _ _ _).mono ?_; rintro e w2 ⟨rfl, g2⟩; have fx := g2.cell ex (by simp); have fy := g2.cell ey (by simp))
        | (go_at_call 12; refine (ticketSpendS_any _ _ _ _ xs p s g (o1.grown g2).ints.1 (by omega)).mono ?_; rintro e w3 ⟨aw, kw, rfl, ow, g3⟩; have hx := g3.cell fx (by simp); have hy := g3.cell fy (by simp)))
    rw [HL.out] at ow ⊢
    rw [HB.out]
    obtain ⟨K, hK⟩ : ∃ K, L.length = K := ⟨_, rfl⟩
    rw [hK] at ow hLl ⊢
    have G := grown_trans (gDrew (grown_refl (w.alloc (.cells #[.int .i64 s, .int .i64 g] 34)) none)) (grown_trans g1 (grown_trans g2 g3))
    have bw := ow.blockIn
    have z2 := (show (w.alloc (.cells #[.int .i64 s, .int .i64 g] 34)).grownBy w2 none from grown_trans (gDrew (grown_refl (w.alloc (.cells #[.int .i64 s, .int .i64 g] 34)) none)) (grown_trans g1 g2)).size
    clear o1 g1 g2 g3 c0 c1 ex ey fx fy hx hy
    go_wp2_with fail
    refine (toIntS_any _ _ _ _ xs (HA.out.grown G) (by omega)).mono ?_
    rintro e w4 ⟨ax, kx, rfl, ox, g4⟩
    have bx := ox.blockIn
    have z3 := G.size
    have z4 := g4.size
    (first | replace ow := ow.grown g4 | skip)
    (first | replace ox := ox.grown g4 | skip)
    (first | replace og := og.grown g4 | skip)
    (first | replace om := om.grown g4 | skip)
    replace G := grown_trans G g4
    clear g4
    have c0 := blkC (blkK G D0.out (by simp)) 0 rfl
    have c1 := blkC (blkK G D0.out (by simp)) 1 rfl
    go_wp2_with fail
    refine (toTicket_any _ _ _).mono ?_
    rintro e w5 ⟨rfl, g5⟩
    have z5 := g5.size
    (first | replace ow := ow.grown g5 | skip)
    (first | replace ox := ox.grown g5 | skip)
    (first | replace og := og.grown g5 | skip)
    (first | replace om := om.grown g5 | skip)
    replace G := grown_trans G g5
    clear g5
    go_wp2_with fail
    refine (ticketSpend_any _ _ _ _ xs p s g ox.ints.1 (HE.out.grown G)).mono ?_
    rintro e w6 ⟨ag, kg, rfl, og, g6⟩
    rw [HL.out] at og ⊢
    rw [HB.out]
    rw [hK] at og ⊢
    have bg := og.blockIn
    (first | replace ow := ow.grown g6 | skip)
    (first | replace ox := ox.grown g6 | skip)
    (first | replace og := og.grown g6 | skip)
    (first | replace om := om.grown g6 | skip)
    replace G := grown_trans G g6
    clear g6 c0 c1
    go_wp2_with fail
    refine (eqIntS_any _ _ _ _ L _ _ _ L og.ints.1 ow.ints.1).mono ?_
    rintro e w7 ⟨rfl, g7⟩
    rw [pb_true (p := L = L) rfl]
    replace g7 := drewN_grown g7 none
    (first | replace ow := ow.grown g7 | skip)
    (first | replace ox := ox.grown g7 | skip)
    (first | replace og := og.grown g7 | skip)
    (first | replace om := om.grown g7 | skip)
    replace G := grown_trans G g7
    clear g7
    go_wp2_with fail
    refine (toIntS_any _ _ _ _ xs (HA.out.grown G) (by omega)).mono ?_
    rintro e w8 ⟨a8, k8, rfl, o8, g8⟩
    (first | replace ow := ow.grown g8 | skip)
    (first | replace ox := ox.grown g8 | skip)
    (first | replace og := og.grown g8 | skip)
    (first | replace om := om.grown g8 | skip)
    replace G := grown_trans G g8
    clear g8
    go_wp2_with fail
    refine (eqIntS_any _ _ _ _ xs _ _ _ xs ox.ints.1 o8.ints.1).mono ?_
    rintro e w9 ⟨rfl, g9⟩
    rw [pb_true (p := xs = xs) rfl]
    replace g9 := drewN_grown g9 none
    (first | replace ow := ow.grown g9 | skip)
    (first | replace ox := ox.grown g9 | skip)
    (first | replace og := og.grown g9 | skip)
    (first | replace om := om.grown g9 | skip)
    replace G := grown_trans G g9
    clear g9 o8
    go_wp2_with fail
    refine (markIntS_any _ _ _ _ _ xs 1 ox rfl (by omega) (by omega) (by omega)).mono ?_
    rintro e w12 ⟨rfl, g12, _⟩
    replace ow := ow.other g12 (.inl ⟨fun k e => (bw k e).2, fun k e => (bx k e).1⟩)
    replace og := og.other g12 (.inr ⟨fun k e => (bg k e).1, fun k e => Nat.lt_of_lt_of_le (bx k e).2 z5⟩)
    replace G := grown_mark G ox g12 z3
    clear g12 ox
    go_wp2_with fail
    refine (eqIntS_any _ _ _ _ L _ _ _ L og.ints.1 ow.ints.1).mono ?_
    rintro e w14 ⟨rfl, g14⟩
    rw [pb_true (p := L = L) rfl]
    replace g14 := drewN_grown g14 none
    (first | replace ow := ow.grown g14 | skip)
    (first | replace ox := ox.grown g14 | skip)
    (first | replace og := og.grown g14 | skip)
    (first | replace om := om.grown g14 | skip)
    replace G := grown_trans G g14
    clear g14
    go_wp2_with fail
    refine (markIntS_any _ _ _ _ _ L 1 og hK (by omega) (by omega) (by omega)).mono ?_
    rintro e w15 ⟨rfl, g15, om⟩
    replace ow := ow.other g15 (.inl ⟨fun k e => Nat.lt_of_lt_of_le (bw k e).2 (Nat.le_trans z4 z5), fun k e => (bg k e).1⟩)
    replace G := grown_mark G og g15 (by omega)
    clear g15 og
    go_wp2_with fail
    refine (heldIntS_any _ _ _ _ 1 om.ints.1 (by omega) (by omega) (by omega)).mono ?_
    rintro e w16 ⟨rfl, rfl⟩
    have c0 : w15.drew.cell? ⟨w.heap.size, 0, none⟩ = some (.int .i64 s) := blkC (blkK G D0.out (by simp)) 0 rfl
    have c1 : w15.drew.cell? ⟨w.heap.size, 1, none⟩ = some (.int .i64 g) := blkC (blkK G D0.out (by simp)) 1 rfl
    have AZ := Lib.hid (show IntsAt w15.drew ao n cap xs from HA.out.grown (gDrew G))
    have EZ := Lib.hid (show RefAt w15.drew from HE.out.grown (gDrew G))
    go_wp2_with fail
    go_region_held3 (fun w' => w'.cell? ⟨w.heap.size, 0, none⟩ = some (.int .i64 s) ∧ w'.cell? ⟨w.heap.size, 1, none⟩ = some (.int .i64 g)) (first | go_keep | exact ⟨ex, ey⟩ | exact ⟨fx, fy⟩ | exact ⟨hx, hy⟩)
      (first
        | (go_at_call 16; refine (toIntS_any _ _ _ _ xs AZ.out (by omega)).mono ?_; rintro e w17 ⟨a1, k1, rfl, o1, g1⟩; have ex := g1.cell c0 (by simp); have ey := g1.cell c1 (by simp))
        | (go_at_call 17; refine (toTicket_any _ _ _).mono ?_; rintro e w18 ⟨rfl, g2⟩; have fx := g2.cell ex (by simp); have fy := g2.cell ey (by simp))
        | (go_at_call 11; refine (ticketSpend_any _ _ _ _ xs p s g (o1.grown g2).ints.1 (EZ.out.grown (grown_trans g1 g2))).mono ?_; rintro e w19 ⟨ah, kh, rfl, oh, g3⟩; have hx := g3.cell fx (by simp); have hy := g3.cell fy (by simp)))
    rw [HL.out] at oh ⊢
    rw [HB.out]
    rw [hK] at oh ⊢
    have g19 := grown_trans (gDrew (grown_refl w15 none)) (grown_trans g1 (grown_trans g2 g3))
    (first | replace ow := ow.grown g19 | skip)
    (first | replace ox := ox.grown g19 | skip)
    (first | replace og := og.grown g19 | skip)
    (first | replace om := om.grown g19 | skip)
    replace G := grown_trans G g19
    clear g19 g1 g2 g3 o1 c0 c1 ex ey fx fy hx hy
    go_wp2_with fail
    refine (eqIntS_any _ _ _ _ L _ _ _ L oh.ints.1 ow.ints.1).mono ?_
    rintro e w20 ⟨rfl, g20⟩
    rw [pb_true (p := L = L) rfl]
    replace g20 := drewN_grown g20 none
    (first | replace ow := ow.grown g20 | skip)
    (first | replace ox := ox.grown g20 | skip)
    (first | replace og := og.grown g20 | skip)
    (first | replace om := om.grown g20 | skip)
    replace G := grown_trans G g20
    clear g20
    go_wp2_with fail
    refine (heldIntS_any _ _ _ _ 1 om.ints.1 (by omega) (by omega) (by omega)).mono ?_
    rintro e w21 ⟨rfl, rfl⟩
    go_wp2_with fail
    go_ret
    exact ⟨rfl, grown_trans G0.out G⟩
end Go.Proofs.YtppkbmlbggokkaaDoor
