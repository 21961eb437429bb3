/- Blocks of the reference: ReplyMake. -/
import Derived.Test.YtedpkhboepahgaaPkS
import Derived.WalkKit
import Derived.Lib.Hide
import Derived.Deep.QuietTactic
import Derived.BigQuiet
import Derived.OwnWalk
import Derived.Deep.RegionHeld3
namespace Go.Proofs.Ytedpkhboepahgaa
open Go.RowKit
/-- a block in plain words: first, element, header, tag -/
abbrev Bk := Int × Int × List Int × Int
noncomputable def rmL (s : Int) (ps ns : List Int) (r : Int) : Bk × List Int :=
  ((ns.getD 0 0, prodZ s 5, hdrL (keysL s ps) ns r, tagL ((keysL s ps).getD 0 0) (hdrL (keysL s ps) ns r)), keysL s ps)
open Classical in
noncomputable def rmR (s : Int) (ps ns : List Int) (r : Int) : Bk × List Int := if MkP s ps ns r [] then rmL s ps ns r else ((0, 0, [], 0), [])
theorem rmR_yes {s : Int} {ps ns : List Int} {r : Int} (h : MkP s ps ns r []) : rmR s ps ns r = rmL s ps ns r := if_pos h
theorem rmR_no {s : Int} {ps ns : List Int} {r : Int} (h : ¬ MkP s ps ns r []) : rmR s ps ns r = ((0, 0, [], 0), []) := if_neg h
def RmPost (w : World) (P : Bk × List Int) (b : Bool) (e : Ending) (w' : World) : Prop :=
  ∃ ha hc ka kc M, e = .returned (.tuple #[.agg #[.int .i64 P.1.1, .int .i64 P.1.2.1, .slice ha P.1.2.2.1.length hc, .int .i64 P.1.2.2.2], .slice ka P.2.length kc, .bool b]) ∧
    OwnI w.heap.size w' (.slice ha P.1.2.2.1.length hc) P.1.2.2.1 ∧ OwnI w.heap.size w' (.slice ka P.2.length kc) P.2 ∧ w.grownBy w' none ∧
    (∀ k, (Value.slice ha P.1.2.2.1.length hc).ownBlock = some k → k < M) ∧ ∀ k, (Value.slice ka P.2.length kc).ownBlock = some k → M ≤ k
abbrev bk0 : Obj := .cells #[.int .i64 0, .int .i64 0, .slice none 0 0, .int .i64 0] 27
theorem rm_no {w w' : World} {P : Bk × List Int} {b : Bool} {ka : Option Addr} (h : P = ((0, 0, [], 0), [])) (hb : b = false) (hk : OwnI w.heap.size w' (.slice ka 0 0) []) (g : w.grownBy w' none) :
    RmPost w P b (.returned (.tuple #[.agg #[.int .i64 0, .int .i64 0, .slice none 0 0, .int .i64 0], .slice ka 0 0, .bool false])) w' := by
  subst h; subst hb
  exact ⟨none, 0, ka, 0, 0, rfl, own_none _ _, hk, g, fun k e => by simp [Value.ownBlock] at e, fun k _ => Nat.zero_le _⟩
theorem pack_nil : PackP [] := ⟨⟨by simp, fun j hj => by simp at hj⟩, by simp⟩
set_option maxRecDepth 8000 in
set_option maxHeartbeats 2000000 in
theorem replyMakeS_any (s : Int) (w : World) (ao : Option Addr) (n cap : Nat) (xs : List Int) (bo : Option Addr) (n' cap' : Nat) (ys : List Int) (r : Int) (h : IntsAt w ao n cap xs) (h' : IntsAt w bo n' cap' ys) :
    Calls Try.prog 13 #[.int .i64 s, .slice ao n cap, .slice bo n' cap', .int .i64 r] w (RmPost w (rmR s xs ys r) (pb (MkP s xs ys r []))) := by
  have G0 := Lib.hid (gAlloc (grown_alloc w bk0 none) (.cells #[] 3))
  have D0 := Lib.hid (show ((w.alloc bk0).alloc (.cells #[] 3)).heap[w.heap.size]? = some bk0 from blkA (heap_alloc_new w _))
  have WS := Lib.hid (show ((w.alloc bk0).alloc (.cells #[] 3)).heap.size = w.heap.size + 2 by simp)
  have E0 : Hid (OwnI (w.heap.size + 1) ((w.alloc bk0).alloc (.cells #[] 3)) (.slice (some ⟨w.heap.size + 1, 0, none⟩) 0 0) []) := Lib.hid (own_nil_at (heap_next (by simp)) (Nat.le_refl _))
  have HX := Lib.hid h.len
  have HY := Lib.hid h'.len
  have A0 := Lib.hid (h.grown G0.out)
  have N0 := Lib.hid (h'.grown G0.out)
  have HNW := Lib.hid h'
  clear h h'
  go_enter Try.func13, Try.ntmps13
  go_wp2_with fail
  refine (packetMakeS_any s _ _ _ _ xs _ _ _ ys r _ _ _ [] A0.out N0.out (OwnI.ints E0.out).1).mono ?_
  rintro e w2 ⟨ha, hc, ba, bc, rfl, oh, ob, g2⟩
  have G2 := Lib.hid g2
  cases hb : pb (MkP s xs ys r [])
  case false =>
    have NK := pb_not.1 hb
    have A := Lib.hid (rmR_no NK)
    rw [mkR_no NK] at oh ob ⊢
    simp only [List.length_nil] at oh ob ⊢
    clear NK oh ob g2
    have GW := Lib.hid (show ((w.alloc bk0).alloc (.cells #[] 3)).grownBy (w2.alloc (.cells #[.int .i64 0, .slice ha 0 hc, .int .i64 0, .slice ba 0 bc] 35)) none from gAlloc G2.out _)
    have D2 := Lib.hid (blkA (o' := .cells #[] 3) (blkK GW.out D0.out (by simp)))
    have d0 := blkC D2.out 0 rfl
    have d1 := blkC D2.out 1 rfl
    have d2 := blkC D2.out 2 rfl
    have d3 := blkC D2.out 3 rfl
    have f0 := blkF D2.out 0
    have f1 := blkF D2.out 1
    have f2 := blkF D2.out 2
    have f3 := blkF D2.out 3
    have gs := grown_trans (grown_trans (grown_trans (grown_set ((w2.alloc (.cells #[.int .i64 0, .slice ha 0 hc, .int .i64 0, .slice ba 0 bc] 35)).alloc (.cells #[] 3)) w.heap.size 0 (.int .i64 0)) (grown_set _ w.heap.size 1 (.int .i64 0))) (grown_set _ w.heap.size 2 (.slice none 0 0))) (grown_set _ w.heap.size 3 (.int .i64 0))
    have GZ := Lib.hid (grown_new (gAlloc (grown_trans G0.out GW.out) (.cells #[] 3)) gs (Nat.le_refl _))
    have ZW := Lib.hid (show w.heap.size + 2 ≤ (w2.alloc (.cells #[.int .i64 0, .slice ha 0 hc, .int .i64 0, .slice ba 0 bc] 35)).heap.size by rw [← WS.out]; exact GW.out.size)
    have E2 : Hid (OwnI (w2.heap.size + 1) ((w2.alloc (.cells #[.int .i64 0, .slice ha 0 hc, .int .i64 0, .slice ba 0 bc] 35)).alloc (.cells #[] 3)) (.slice (some ⟨w2.heap.size + 1, 0, none⟩) 0 0) []) := Lib.hid (own_nil_at (heap_next (by simp)) (Nat.le_refl _))
    have Z2 := Lib.hid (show w.heap.size + 2 ≤ w2.heap.size by rw [← WS.out]; exact G2.out.size)
    have EZ := Lib.hid (Own.lower (OwnI.row E2.out gs (fun k e => by simp at e; have := Z2.out; omega)) (show w.heap.size ≤ w2.heap.size + 1 by have := Z2.out; omega))
    clear gs E2 ZW
    have B := Lib.hid hb
    clear hb
    go_wp2_with fail
    refine bodyPost_ret (v := .tuple #[.agg #[.int .i64 0, .int .i64 0, .slice none 0 0, .int .i64 0], .slice (some ⟨w2.heap.size + 1, 0, none⟩) 0 0, .bool false]) ?_ rfl (rm_no A.out B.out EZ.out GZ.out)
    (simp only [results, Try.results13]; go_simp)
  case true =>
    have hM := pb_iff.1 hb
    have M := Lib.hid hM
    have B := Lib.hid hb
    have A := Lib.hid (rmR_yes hM)
    rw [mkR_yes hM] at oh ob ⊢
    unfold mkL at oh ob ⊢
    simp only [] at oh ob ⊢
    have HL9 := (hdrL_ok (mkP_ok hM).1 hM.2.2.2.1 (mkP_ok hM).2 hM.2.2.2.2).2
    rw [HL9] at oh ⊢
    have BL6 : (onAll (packL []) (keysL s xs)).length = 6 := by rw [onAll_len, packL_len (by simp)]
    rw [BL6] at ob ⊢
    obtain ⟨H, hH⟩ : ∃ H, hdrL (keysL s xs) ys r = H := ⟨_, rfl⟩
    rw [hH] at oh HL9 ⊢
    obtain ⟨T, hT⟩ : ∃ T, tagL ((keysL s xs).getD 0 0) H = T := ⟨_, rfl⟩
    rw [hT]
    obtain ⟨E, hE⟩ : ∃ E, prodZ s 5 = E := ⟨_, rfl⟩
    rw [hE]
    have HH := Lib.hid hH
    have HT := Lib.hid hT
    have HE := Lib.hid hE
    have HN9 := Lib.hid HL9
    have OH := Lib.hid oh
    clear oh ob hb hH hT hE BL6 HL9 hM g2
    have GW := Lib.hid (show ((w.alloc bk0).alloc (.cells #[] 3)).grownBy (w2.alloc (.cells #[.int .i64 E, .slice ha 9 hc, .int .i64 T, .slice ba 6 bc] 35)) none from gAlloc G2.out _)
    have DX := Lib.hid (show (w2.alloc (.cells #[.int .i64 E, .slice ha 9 hc, .int .i64 T, .slice ba 6 bc] 35)).heap[w2.heap.size]? = some (.cells #[.int .i64 E, .slice ha 9 hc, .int .i64 T, .slice ba 6 bc] 35) from heap_alloc_new w2 _)
    have n1 : 1 ≤ n' := by have := M.out.2.1.2.2; have := M.out.2.2.1; have := HX.out; have := HY.out; omega
    obtain ⟨nb, noff, rfl, hnb, hnc⟩ := IntsAt.addr HNW.out (by omega)
    have nm0 := hnc 0 (by omega)
    rw [Nat.add_zero] at nm0
    obtain ⟨nm, hnm⟩ : ∃ nm, ys.getD 0 0 = nm := ⟨_, rfl⟩
    rw [hnm] at nm0
    have HNM := Lib.hid hnm
    have D2 := Lib.hid (blkK GW.out D0.out (by simp))
    have A2 := Lib.hid (show IntsAt (w2.alloc (.cells #[.int .i64 E, .slice ha 9 hc, .int .i64 T, .slice ba 6 bc] 35)).drew ao n cap xs from A0.out.grown (gDrew GW.out))
    have x0 : (w2.alloc (.cells #[.int .i64 E, .slice ha 9 hc, .int .i64 T, .slice ba 6 bc] 35)).drew.cell? ⟨nb, noff, none⟩ = some (.int .i64 nm) := (gDrew (grown_trans G0.out GW.out)).cell nm0 (by simp)
    have x1 : (w2.alloc (.cells #[.int .i64 E, .slice ha 9 hc, .int .i64 T, .slice ba 6 bc] 35)).drew.cell? ⟨w2.heap.size, 0, none⟩ = some (.int .i64 E) := blkC DX.out 0 rfl
    have x2 : (w2.alloc (.cells #[.int .i64 E, .slice ha 9 hc, .int .i64 T, .slice ba 6 bc] 35)).drew.cell? ⟨w2.heap.size, 1, none⟩ = some (.slice ha 9 hc) := blkC DX.out 1 rfl
    have x3 : (w2.alloc (.cells #[.int .i64 E, .slice ha 9 hc, .int .i64 T, .slice ba 6 bc] 35)).drew.cell? ⟨w2.heap.size, 2, none⟩ = some (.int .i64 T) := blkC DX.out 2 rfl
    have Z2 := Lib.hid (show w.heap.size + 2 ≤ w2.heap.size by rw [← WS.out]; exact G2.out.size)
    have nnb : some nb ≠ some w.heap.size := by simp; omega
    have nnx : some w2.heap.size ≠ some w.heap.size := by have := Z2.out; simp; omega
    have i2 : 0 < n' := by omega
    have i3 : ¬ (n' : Int) ≤ 0 := by omega
    have i1 : (0 : Int) < n' := by omega
    have hx3 : n ≤ 1000 := by have := M.out.2.1.2.2; have := HX.out; omega
    clear hnc hnm hnb nm0
    go_wp2_with fail
    go_region_held3 (fun w' => w'.cell? ⟨nb, noff, none⟩ = some (.int .i64 nm) ∧ w'.cell? ⟨w2.heap.size, 0, none⟩ = some (.int .i64 E) ∧ w'.cell? ⟨w2.heap.size, 1, none⟩ = some (.slice ha 9 hc) ∧ w'.cell? ⟨w2.heap.size, 2, none⟩ = some (.int .i64 T)) (first | go_keep | exact ⟨x0, x1, x2, x3⟩ | exact ⟨y0, y1, y2, y3⟩ | exact ⟨gs5.cell y0 nnb, gs5.cell y1 nnx, gs5.cell y2 nnx, gs5.cell y3 nnx⟩)
      (first
        | (go_at_call 47; refine (l5Keys_any s _ _ _ _ xs M.out.2.1.1 A2.out M.out.2.1.2.1 hx3).mono ?_; rintro e w5 ⟨a5, c5, rfl, o5, g5⟩; have y0 := g5.cell x0 (by simp); have y1 := g5.cell x1 (by simp); have y2 := g5.cell x2 (by simp); have y3 := g5.cell x3 (by simp); have D5 := Lib.hid (blkK g5 D2.out (by simp)); have d0 := blkC D5.out 0 rfl; have d1 := blkC D5.out 1 rfl; have d2 := blkC D5.out 2 rfl; have d3 := blkC D5.out 3 rfl; have f0 := blkF D5.out 0; have f1 := blkF D5.out 1; have f2 := blkF D5.out 2; have f3 := blkF D5.out 3; have gs5 := grown_trans (grown_trans (grown_trans (grown_set w5 w.heap.size 0 (.int .i64 nm)) (grown_set _ w.heap.size 1 (.int .i64 E))) (grown_set _ w.heap.size 2 (.slice ha 9 hc))) (grown_set _ w.heap.size 3 (.int .i64 T))))
    all_goals
      have WXS := Lib.hid (show (w2.alloc (.cells #[.int .i64 E, .slice ha 9 hc, .int .i64 T, .slice ba 6 bc] 35)).drew.heap.size = w2.heap.size + 1 by simp)
      have GD := Lib.hid (show (w2.alloc (.cells #[.int .i64 E, .slice ha 9 hc, .int .i64 T, .slice ba 6 bc] 35)).grownBy w5 none from grown_trans (gDrew (grown_refl _ none)) g5)
      have GZ := Lib.hid (grown_new (grown_trans G0.out (grown_trans GW.out GD.out)) gs5 (Nat.le_refl _))
      have HZ := Lib.hid (OwnI.row (OwnI.grown OH.out (grown_trans (grown_alloc w2 _ none) GD.out)) gs5 (fun k e => by simp at e; have := WS.out; omega))
      have KZ := Lib.hid (OwnI.row o5 gs5 (fun k e => by simp at e; have := WXS.out; have := Z2.out; omega))
      have LH := Lib.hid (World.ownsRow.lt OH.out)
      have LK := Lib.hid (World.ownsRow.lt o5)
      clear y0 y1 y2 y3 o5 g5 gs5
      go_wp2
      refine bodyPost_ret (v := .tuple #[.agg #[.int .i64 nm, .int .i64 E, .slice ha 9 hc, .int .i64 T], .slice a5 (keysL s xs).length c5, .bool true]) ?_ rfl ?_
      · (simp only [results, Try.results13]; go_simp)
      · rw [A.out, B.out]
        unfold rmL
        rw [HH.out, HT.out, HE.out, HNM.out]
        refine ⟨ha, hc, a5, c5, w2.heap.size, ?_, ?_, ?_, GZ.out, ?_, ?_⟩
        · rw [HN9.out]
        · rw [HN9.out]; exact Own.lower HZ.out (by have := WS.out; omega)
        · exact Own.lower KZ.out (by have := WXS.out; have := Z2.out; omega)
        · rw [HN9.out]; exact fun k e => (LH.out k e).2
        · exact fun k e => by have := (LK.out k e).1; have := WXS.out; omega
end Go.Proofs.Ytedpkhboepahgaa
