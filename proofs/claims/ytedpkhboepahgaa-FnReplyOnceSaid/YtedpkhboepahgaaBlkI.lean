/- Blocks of the program: ReplyMake. -/
import Derived.Test.YtedpkhboepahgaaBlkS
import Derived.Test.YtedpkhboepahgaaPkI
import Derived.WalkKit
import Derived.Lib.Hide
import Derived.Deep.QuietTactic
import Derived.BigQuiet
import Derived.OwnWalk
import Derived.Deep.RegionHeld3
namespace Go.Proofs.Ytedpkhboepahgaa
open Go.RowKit
set_option maxRecDepth 8000 in
set_option maxHeartbeats 2000000 in
theorem replyMake_any (s : Int) (w : World) (ao : Option Addr) (n cap : Nat) (xs : List Int) (bo : Option Addr) (n' cap' : Nat) (ys : List Int) (r : Int) (h : IntsAt w ao n cap xs) (h' : IntsAt w bo n' cap' ys) :
    Calls Try.prog 12 #[.int .i64 s, .slice ao n cap, .slice bo n' cap', .int .i64 r] w (RmPost w (rmR s xs ys r) (pb (MkP s xs ys r []))) := by
  have G0 := Lib.hid (grown_alloc w bk0 none)
  have D0 := Lib.hid (show (w.alloc bk0).heap[w.heap.size]? = some bk0 from heap_alloc_new w _)
  have WS := Lib.hid (show (w.alloc bk0).heap.size = w.heap.size + 1 by simp)
  have E0 := Lib.hid (ints_empty (w := w.alloc bk0) (ao := none) (c := 0) (by omega) (fun _ => rfl))
  have HX := Lib.hid h.len
  have HY := Lib.hid h'.len
  have A0 := Lib.hid (h.grown G0.out)
  have N0 := Lib.hid (h'.grown G0.out)
  have HNW := Lib.hid h'
  clear h h'
  go_enter Try.func12, Try.ntmps12
  go_wp2_with fail
  refine (packetMake_any s _ _ _ _ xs _ _ _ ys r _ _ _ [] A0.out N0.out E0.out).mono ?_
  rintro e w2 ⟨ha, hc, ba, bc, rfl, oh, ob, g2⟩
  have G2 := Lib.hid g2
  have Z2 := Lib.hid (show w.heap.size + 1 ≤ w2.heap.size by rw [← WS.out]; exact G2.out.size)
  cases hb : pb (MkP s xs ys r [])
  case false =>
    have NK := pb_not.1 hb
    have A := Lib.hid (rmR_no NK)
    rw [mkR_no NK] at oh ob ⊢
    simp only [List.length_nil] at oh ob ⊢
    clear NK oh ob g2
    have GW := Lib.hid (show (w.alloc bk0).grownBy (w2.alloc (.cells #[.int .i64 0, .slice ha 0 hc, .int .i64 0, .slice ba 0 bc] 35)) none from gAlloc G2.out _)
    have D2 := Lib.hid (blkK GW.out D0.out (by simp))
    have d0 := blkC D2.out 0 rfl
    have d1 := blkC D2.out 1 rfl
    have d2 := blkC D2.out 2 rfl
    have d3 := blkC D2.out 3 rfl
    have f0 := blkF D2.out 0
    have f1 := blkF D2.out 1
    have f2 := blkF D2.out 2
    have f3 := blkF D2.out 3
    have gs := grown_trans (grown_trans (grown_trans (grown_set (w2.alloc (.cells #[.int .i64 0, .slice ha 0 hc, .int .i64 0, .slice ba 0 bc] 35)) w.heap.size 0 (.int .i64 0)) (grown_set _ w.heap.size 1 (.int .i64 0))) (grown_set _ w.heap.size 2 (.slice none 0 0))) (grown_set _ w.heap.size 3 (.int .i64 0))
    have GZ := Lib.hid (grown_new (grown_trans G0.out GW.out) gs (Nat.le_refl _))
    clear gs
    have B := Lib.hid hb
    clear hb
    go_wp2_with fail
    refine bodyPost_ret (v := .tuple #[.agg #[.int .i64 0, .int .i64 0, .slice none 0 0, .int .i64 0], .slice none 0 0, .bool false]) ?_ rfl (rm_no A.out B.out (own_none _ _) GZ.out)
    (simp only [results, Try.results12]; go_simp)
  case true =>
    have hM := pb_iff.1 hb
    have M := Lib.hid hM
    have B := Lib.hid hb
    have A := Lib.hid (rmR_yes hM)
    rw [mkR_yes hM] at oh ob ⊢
    unfold mkL at oh ob ⊢
    simp only [] at oh ob ⊢
    have HL9 := (hdrL_ok (mkP_ok hM).1 hM.2.2.2.1 (mkP_ok hM).2 hM.2.2.2.2).2
    rw [HL9] at oh ⊢
    have BL6 : (onAll (packL []) (keysL s xs)).length = 6 := by rw [onAll_len, packL_len (by simp)]
    rw [BL6] at ob ⊢
    obtain ⟨H, hH⟩ : ∃ H, hdrL (keysL s xs) ys r = H := ⟨_, rfl⟩
    rw [hH] at oh HL9 ⊢
    obtain ⟨T, hT⟩ : ∃ T, tagL ((keysL s xs).getD 0 0) H = T := ⟨_, rfl⟩
    rw [hT]
    obtain ⟨E, hE⟩ : ∃ E, prodZ s 5 = E := ⟨_, rfl⟩
    rw [hE]
    have HH := Lib.hid hH
    have HT := Lib.hid hT
    have HE := Lib.hid hE
    have HN9 := Lib.hid HL9
    have OH := Lib.hid oh
    clear oh ob hb hH hT hE BL6 HL9 hM g2
    have GW := Lib.hid (show (w.alloc bk0).grownBy (w2.alloc (.cells #[.int .i64 E, .slice ha 9 hc, .int .i64 T, .slice ba 6 bc] 35)) none from gAlloc G2.out _)
    have DX := Lib.hid (show (w2.alloc (.cells #[.int .i64 E, .slice ha 9 hc, .int .i64 T, .slice ba 6 bc] 35)).heap[w2.heap.size]? = some (.cells #[.int .i64 E, .slice ha 9 hc, .int .i64 T, .slice ba 6 bc] 35) from heap_alloc_new w2 _)
    have n1 : 1 ≤ n' := by have := M.out.2.1.2.2; have := M.out.2.2.1; have := HX.out; have := HY.out; omega
    obtain ⟨nb, noff, rfl, hnb, hnc⟩ := IntsAt.addr HNW.out (by omega)
    have nm0 := hnc 0 (by omega)
    rw [Nat.add_zero] at nm0
    obtain ⟨nm, hnm⟩ : ∃ nm, ys.getD 0 0 = nm := ⟨_, rfl⟩
    rw [hnm] at nm0
    have HNM := Lib.hid hnm
    have D2 := Lib.hid (blkK GW.out D0.out (by simp))
    have A2 := Lib.hid (A0.out.grown GW.out)
    have nnb : some nb ≠ some w.heap.size := by simp; omega
    have nnx : some w2.heap.size ≠ some w.heap.size := by have := Z2.out; simp; omega
    have i1 : (0 : Int) < n' := by omega
    have i2 : 0 < n' := by omega
    have i3 : ¬ (n' : Int) ≤ 0 := by omega
    have WXS := Lib.hid (show (w2.alloc (.cells #[.int .i64 E, .slice ha 9 hc, .int .i64 T, .slice ba 6 bc] 35)).heap.size = w2.heap.size + 1 by simp)
    clear hnc hnm hnb
    go_wp2_with fail
    refine (pathKeys_any s _ _ _ _ xs A2.out).mono ?_
    rintro e w5 ⟨a5, c5, rfl, o5, g5⟩
    rw [keysR_yes M.out.2.1] at o5 ⊢
    rw [pb_true M.out.2.1]
    obtain ⟨NK, hNK⟩ : ∃ NK, (keysL s xs).length = NK := ⟨_, rfl⟩
    have HNK := Lib.hid hNK
    rw [hNK] at o5 ⊢
    have y0 := (grown_trans (grown_trans G0.out GW.out) g5).cell nm0 (by simp)
    have D5 := Lib.hid (blkK g5 D2.out (by simp))
    have DX5 := Lib.hid (blkK g5 DX.out (by simp))
    have y1 := blkC DX5.out 0 rfl
    have y2 := blkC DX5.out 1 rfl
    have y3 := blkC DX5.out 2 rfl
    have d0 := blkC D5.out 0 rfl
    have d1 := blkC D5.out 1 rfl
    have d2 := blkC D5.out 2 rfl
    have d3 := blkC D5.out 3 rfl
    have f0 := blkF D5.out 0
    have f1 := blkF D5.out 1
    have f2 := blkF D5.out 2
    have f3 := blkF D5.out 3
    have gs := grown_trans (grown_trans (grown_trans (grown_set w5 w.heap.size 0 (.int .i64 nm)) (grown_set _ w.heap.size 1 (.int .i64 E))) (grown_set _ w.heap.size 2 (.slice ha 9 hc))) (grown_set _ w.heap.size 3 (.int .i64 T))
    have z0 := cell_dr (gs.cell y0 nnb)
    have z1 := cell_dr (gs.cell y1 nnx)
    have z2 := cell_dr (gs.cell y2 nnx)
    have z3 := cell_dr (gs.cell y3 nnx)
    have GZ := Lib.hid (gDrew (grown_new (grown_trans G0.out (grown_trans GW.out g5)) gs (Nat.le_refl _)))
    have HZ := Lib.hid (OwnI.grown (OwnI.row (OwnI.grown OH.out (grown_trans (grown_alloc w2 _ none) g5)) gs (fun k e => by simp at e; have := WS.out; omega)) (gDrew (grown_refl _ none)))
    have KZ := Lib.hid (OwnI.grown (OwnI.row o5 gs (fun k e => by simp at e; have := WXS.out; have := Z2.out; omega)) (gDrew (grown_refl _ none)))
    have LH := Lib.hid (World.ownsRow.lt OH.out)
    have LK := Lib.hid (World.ownsRow.lt o5)
    have x0 := cell_dr y0
    have x1 := cell_dr y1
    have x2 := cell_dr y2
    have x3 := cell_dr y3
    clear o5 g5 gs hNK nm0
    go_wp2_with fail
    go_region_held3 (fun w' => w'.cell? ⟨nb, noff, none⟩ = some (.int .i64 nm) ∧ w'.cell? ⟨w2.heap.size, 0, none⟩ = some (.int .i64 E) ∧ w'.cell? ⟨w2.heap.size, 1, none⟩ = some (.slice ha 9 hc) ∧ w'.cell? ⟨w2.heap.size, 2, none⟩ = some (.int .i64 T)) (first | go_keep | exact ⟨x0, x1, x2, x3⟩ | exact ⟨z0, z1, z2, z3⟩)
      (first | (go_at_call 39; skip))
    all_goals
      go_wp2
      refine bodyPost_ret (v := .tuple #[.agg #[.int .i64 nm, .int .i64 E, .slice ha 9 hc, .int .i64 T], .slice a5 NK c5, .bool true]) ?_ rfl ?_
      · (simp only [results, Try.results12]; go_simp)
      · rw [A.out, B.out]
        unfold rmL
        rw [HH.out, HT.out, HE.out, HNM.out]
        refine ⟨ha, hc, a5, c5, w2.heap.size, ?_, ?_, ?_, GZ.out, ?_, ?_⟩
        · rw [HN9.out, HNK.out]
        · rw [HN9.out]; exact Own.lower HZ.out (by have := WS.out; omega)
        · rw [HNK.out]; exact Own.lower KZ.out (by have := WXS.out; have := Z2.out; omega)
        · rw [HN9.out]; exact fun k e => (LH.out k e).2
        · rw [HNK.out]; exact fun k e => by have := (LK.out k e).1; have := WXS.out; omega
end Go.Proofs.Ytedpkhboepahgaa
