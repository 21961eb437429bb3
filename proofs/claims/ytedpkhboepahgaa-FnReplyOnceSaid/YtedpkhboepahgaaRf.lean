/- Blocks filled: ReplyFill of both. -/
import Derived.Test.YtedpkhboepahgaaVal
import Derived.Test.YtedpkhboepahgaaNames
import Derived.WalkKit
import Derived.Lib.Hide
import Derived.Deep.QuietTactic
import Derived.BigQuiet
import Derived.OwnWalk
import Derived.Deep.RegionHeld3
namespace Go.Proofs.Ytedpkhboepahgaa
open Go.RowKit
/-- a block can be filled with a letter -/
noncomputable def fillB (f e : Int) (H : List Int) (t : Int) (l : List Int) : Bool := pb (PackP l) && nmB f && vB e H t (packR l)
noncomputable def fillR (f e : Int) (H : List Int) (t : Int) (l : List Int) : Pk := if fillB f e H t l = true then (e, H, t, packR l) else (0, [], 0, [])
theorem fillR_yes {f e t : Int} {H l : List Int} (h : fillB f e H t l = true) : fillR f e H t l = (e, H, t, packR l) := if_pos h
theorem fillR_no {f e t : Int} {H l : List Int} (h : fillB f e H t l = false) : fillR f e H t l = (0, [], 0, []) := if_neg (by rw [h]; simp)
theorem box4 {w : World} {b : Nat} {ty : TypeId} {fr : Nat × Nat} {o0 o1 o2 o3 : Value} (h : w.heap[b]? = some (.cells #[o0, o1, o2, o3] ty fr)) (v0 v1 v2 v3 : Value) :
    ((((w.setCell ⟨b, 0, none⟩ v0).setCell ⟨b, 1, none⟩ v1).setCell ⟨b, 2, none⟩ v2).setCell ⟨b, 3, none⟩ v3).heap[b]? = some (.cells #[v0, v1, v2, v3] ty fr) := by
  rw [heap_setCell_at (heap_setCell_at (heap_setCell_at (heap_setCell_at h v0) v1) v2) v3]
  rfl
theorem ap_ne {v : Value} {X : Nat} (h : ∀ k, v.ownBlock = some k → k ≠ X) : v.ownBlock = none ∨ v.ownBlock ≠ some X := by
  cases hb : v.ownBlock with
  | none => exact .inl rfl
  | some k => exact .inr fun e => h k hb (Option.some.inj e)
set_option maxRecDepth 8000 in
set_option maxHeartbeats 2000000 in
theorem replyFill_any (f e t : Int) (w : World) (ha : Option Addr) (hn hc : Nat) (la : Option Addr) (ln lc : Nat) (H l : List Int) (h : IntsAt w ha hn hc H) (h' : IntsAt w la ln lc l) (hs : hn ≤ 1000) :
    Calls Try.prog 17 #[.agg #[.int .i64 f, .int .i64 e, .slice ha hn hc, .int .i64 t], .slice la ln lc] w (PkPost w (fillR f e H t l) (fillB f e H t l)) := by
  have G0 := Lib.hid (show w.grownBy ((w.alloc (.cells #[.int .i64 f, .int .i64 e, .slice ha hn hc, .int .i64 t] 27)).alloc pk0) none from gAlloc (grown_alloc w _ none) _)
  have D0 := Lib.hid (show ((w.alloc (.cells #[.int .i64 f, .int .i64 e, .slice ha hn hc, .int .i64 t] 27)).alloc pk0).heap[w.heap.size]? = some (.cells #[.int .i64 f, .int .i64 e, .slice ha hn hc, .int .i64 t] 27) from blkA (heap_alloc_new w _))
  have R0 := Lib.hid (show ((w.alloc (.cells #[.int .i64 f, .int .i64 e, .slice ha hn hc, .int .i64 t] 27)).alloc pk0).heap[w.heap.size + 1]? = some pk0 from heap_next (by simp))
  have WS := Lib.hid (show ((w.alloc (.cells #[.int .i64 f, .int .i64 e, .slice ha hn hc, .int .i64 t] 27)).alloc pk0).heap.size = w.heap.size + 2 by simp)
  have I0 := Lib.hid (h.grown G0.out)
  have J0 := Lib.hid (h'.grown G0.out)
  have LH := Lib.hid h.len
  clear h h'
  go_enter Try.func17, Try.ntmps17
  go_wp2_with fail
  refine (letterPack_any _ _ _ _ l J0.out).mono ?_
  rintro q w1 ⟨ya, yc, rfl, oy, g1⟩
  obtain ⟨LN, hLN⟩ : ∃ N, (packR l).length = N := ⟨_, rfl⟩
  rw [hLN] at oy ⊢
  obtain ⟨b1, k1⟩ : ∃ b, pb (PackP l) = b := ⟨_, rfl⟩
  rw [k1]
  obtain ⟨b2, k2⟩ : ∃ b, nmB f = b := ⟨_, rfl⟩
  obtain ⟨b3, k3⟩ : ∃ b, vB e H t (packR l) = b := ⟨_, rfl⟩
  have V := Lib.hid (show fillB f e H t l = (b1 && b2 && b3) by rw [fillB, k1, k2, k3])
  have K2 := Lib.hid k2
  have K3 := Lib.hid k3
  have HLN := Lib.hid hLN
  have Y1 := Lib.hid oy
  have G1 := Lib.hid g1
  have I1 := Lib.hid (show IntsAt w1 ha hn hc H from I0.out.grown g1)
  have D1 := Lib.hid (blkK g1 D0.out (by simp))
  have R1 := Lib.hid (blkK g1 R0.out (by simp))
  have S1 := Lib.hid (show w.heap.size + 2 ≤ w1.heap.size by rw [← WS.out]; exact g1.size)
  clear hLN k1 k2 k3 oy g1 I0 J0
  have x0 : w1.drew.cell? ⟨w.heap.size, 1, none⟩ = some (.int .i64 e) := blkC D1.out 1 rfl
  have x1 : w1.drew.cell? ⟨w.heap.size, 2, none⟩ = some (.slice ha hn hc) := blkC D1.out 2 rfl
  have x2 : w1.drew.cell? ⟨w.heap.size, 3, none⟩ = some (.int .i64 t) := blkC D1.out 3 rfl
  have z0 : (w1.alloc pk0).drew.cell? ⟨w.heap.size, 1, none⟩ = some (.int .i64 e) := blkC (blkA D1.out) 1 rfl
  have z1 : (w1.alloc pk0).drew.cell? ⟨w.heap.size, 2, none⟩ = some (.slice ha hn hc) := blkC (blkA D1.out) 2 rfl
  have z2 : (w1.alloc pk0).drew.cell? ⟨w.heap.size, 3, none⟩ = some (.int .i64 t) := blkC (blkA D1.out) 3 rfl
  have nb1 : some w.heap.size ≠ some w1.heap.size := by have := S1.out; simp; omega
  have ID := Lib.hid (show IntsAt w1.drew ha hn hc H from I1.out.grown (gDrew (grown_refl _ none)))
  have IE := Lib.hid (show IntsAt (w1.alloc pk0).drew ha hn hc H from I1.out.grown (gDrew (grown_alloc _ _ none)))
  go_wp2_with fail
  go_region_held3 (fun w' => w'.cell? ⟨w.heap.size, 1, none⟩ = some (.int .i64 e) ∧ w'.cell? ⟨w.heap.size, 2, none⟩ = some (.slice ha hn hc) ∧ w'.cell? ⟨w.heap.size, 3, none⟩ = some (.int .i64 t)) (first | go_keep | with_reducible exact ⟨x0, x1, x2⟩ | with_reducible exact ⟨z0, z1, z2⟩ | with_reducible exact ⟨y0, y1, y2⟩ | with_reducible exact ⟨v0, v1, v2⟩ | with_reducible exact ⟨u0, u1, u2⟩)
    (first
      | (go_at_call 49; refine (clone_any _ _ _ _ H ID.out (by omega)).mono ?_; rintro q w2 ⟨a2, c2, rfl, o2, g2⟩; have y0 := g2.cell x0 (by simp); have y1 := g2.cell x1 (by simp); have y2 := g2.cell x2 (by simp); have LX2 := Lib.hid (show w1.heap.size ≤ w2.heap.size from g2.size); have v0 := (grown_alloc w2 pk0 none).cell y0 (by simp); have v1 := (grown_alloc w2 pk0 none).cell y1 (by simp); have v2 := (grown_alloc w2 pk0 none).cell y2 (by simp); have nb2 : some w.heap.size ≠ some w2.heap.size := (by have := S1.out; have := LX2.out; simp; omega); have gsA := (grown_trans (grown_trans (grown_trans (grown_set (w2.alloc pk0) w2.heap.size 0 (.int .i64 e)) (grown_set _ w2.heap.size 1 (.slice a2 H.length c2))) (grown_set _ w2.heap.size 2 (.int .i64 t))) (grown_set _ w2.heap.size 3 (.slice ya LN yc))); have u0 := gsA.cell v0 nb2; have u1 := gsA.cell v1 nb2; have u2 := gsA.cell v2 nb2; clear gsA nb2; have P0 := Lib.hid (heap_alloc_new w2 pk0); have d0 := blkC P0.out 0 rfl; have d1 := blkC P0.out 1 rfl; have d2 := blkC P0.out 2 rfl; have d3 := blkC P0.out 3 rfl; have f0 := blkF P0.out 0; have f1 := blkF P0.out 1; have f2 := blkF P0.out 2; have f3 := blkF P0.out 3)
      | (go_at_call 49; refine (clone_any _ _ _ _ H IE.out (by omega)).mono ?_; rintro q w2 ⟨a2, c2, rfl, o2, g2⟩; have y0 := g2.cell z0 (by simp); have y1 := g2.cell z1 (by simp); have y2 := g2.cell z2 (by simp); have LX2 := Lib.hid (show (w1.alloc pk0).heap.size ≤ w2.heap.size from g2.size); have gs2 := (grown_trans (grown_trans (grown_trans (grown_set w2 w1.heap.size 0 (.int .i64 e)) (grown_set _ w1.heap.size 1 (.slice a2 H.length c2))) (grown_set _ w1.heap.size 2 (.int .i64 t))) (grown_set _ w1.heap.size 3 (.slice ya LN yc))); have u0 := gs2.cell y0 nb1; have u1 := gs2.cell y1 nb1; have u2 := gs2.cell y2 nb1; clear gs2; have P0 := Lib.hid (blkK g2 (show (w1.alloc pk0).drew.heap[w1.heap.size]? = some pk0 from heap_alloc_new w1 pk0) (by simp)); have d0 := blkC P0.out 0 rfl; have d1 := blkC P0.out 1 rfl; have d2 := blkC P0.out 2 rfl; have d3 := blkC P0.out 3 rfl; have f0 := blkF P0.out 0; have f1 := blkF P0.out 1; have f2 := blkF P0.out 2; have f3 := blkF P0.out 3))
  · have GD : w1.grownBy w2 none := grown_trans (gDrew (grown_refl _ none)) g2
    replace o2 : OwnI w1.heap.size w2 (.slice a2 H.length c2) H := o2
    clear y0 y1 y2 v0 v1 v2 u0 u1 u2 g2 d0 d1 d2 d3 f0 f1 f2 f3
    have ga := grown_alloc w2 (.cells #[.int .i64 e, .slice a2 H.length c2, .int .i64 t, .slice ya LN yc] 35) none
    have G2 := Lib.hid (grown_trans G0.out (grown_trans G1.out GD))
    have XO := Lib.hid (OwnI.grown o2 ga)
    have YO := Lib.hid (OwnI.grown (OwnI.grown Y1.out GD) ga)
    have GP := Lib.hid (grown_trans G2.out ga)
    have D2 := Lib.hid (heap_alloc_new w2 (.cells #[.int .i64 e, .slice a2 H.length c2, .int .i64 t, .slice ya LN yc] 35))
    have R2 := Lib.hid (blkK (grown_trans GD ga) R1.out (by simp))
    have B2 := Lib.hid (blkK (grown_trans GD ga) D1.out (by simp))
    clear o2 GD x0 x1 x2 z0 z1 z2 P0 ga
    obtain ⟨w3, hw3⟩ : ∃ x, (w2.alloc (.cells #[.int .i64 e, .slice a2 H.length c2, .int .i64 t, .slice ya LN yc] 35)) = x := ⟨_, rfl⟩
    rw [hw3] at XO YO GP D2 R2 B2 ⊢
    clear hw3
    have c0 := blkC B2.out 0 rfl
    have e0 := blkC D2.out 0 rfl
    have e1 := blkC D2.out 1 rfl
    have e2 := blkC D2.out 2 rfl
    have e3 := blkC D2.out 3 rfl
    cases b1 with
    | false =>
      have B := Lib.hid (show fillB f e H t l = false by rw [V.out]; rfl)
      have A := Lib.hid (fillR_no B.out)
      have d0 := blkC R2.out 0 rfl
      have d1 := blkC R2.out 1 rfl
      have d2 := blkC R2.out 2 rfl
      have d3 := blkC R2.out 3 rfl
      have f0 := blkF R2.out 0
      have f1 := blkF R2.out 1
      have f2 := blkF R2.out 2
      have f3 := blkF R2.out 3
      have gs := grown_trans (grown_trans (grown_trans (grown_set w3 (w.heap.size + 1) 0 (.int .i64 0)) (grown_set _ (w.heap.size + 1) 1 (.slice none 0 0))) (grown_set _ (w.heap.size + 1) 2 (.int .i64 0))) (grown_set _ (w.heap.size + 1) 3 (.slice none 0 0))
      have GZ := Lib.hid (grown_new GP.out gs (by omega))
      clear gs
      go_wp2_with (first | (go_at_call 50; refine (isName_any _ _).mono ?_; rintro q w' ⟨rfl, rfl⟩; rw [K2.out]))
      refine bodyPost_ret (v := .tuple #[.agg #[.int .i64 0, .slice none 0 0, .int .i64 0, .slice none 0 0], .bool false]) ?_ rfl (pk_no A.out B.out GZ.out)
      (simp only [results, Try.results17]; go_simp)
    | true =>
      cases b2 with
      | false =>
        have B := Lib.hid (show fillB f e H t l = false by rw [V.out]; rfl)
        have A := Lib.hid (fillR_no B.out)
        have d0 := blkC R2.out 0 rfl
        have d1 := blkC R2.out 1 rfl
        have d2 := blkC R2.out 2 rfl
        have d3 := blkC R2.out 3 rfl
        have f0 := blkF R2.out 0
        have f1 := blkF R2.out 1
        have f2 := blkF R2.out 2
        have f3 := blkF R2.out 3
        have gs := grown_trans (grown_trans (grown_trans (grown_set w3 (w.heap.size + 1) 0 (.int .i64 0)) (grown_set _ (w.heap.size + 1) 1 (.slice none 0 0))) (grown_set _ (w.heap.size + 1) 2 (.int .i64 0))) (grown_set _ (w.heap.size + 1) 3 (.slice none 0 0))
        have GZ := Lib.hid (grown_new GP.out gs (by omega))
        clear gs
        go_wp2_with (first | (go_at_call 50; refine (isName_any _ _).mono ?_; rintro q w' ⟨rfl, rfl⟩; rw [K2.out]))
        refine bodyPost_ret (v := .tuple #[.agg #[.int .i64 0, .slice none 0 0, .int .i64 0, .slice none 0 0], .bool false]) ?_ rfl (pk_no A.out B.out GZ.out)
        (simp only [results, Try.results17]; go_simp)
      | true =>
        go_wp2_with (first | (go_at_call 50; refine (isName_any _ _).mono ?_; rintro q w' ⟨rfl, rfl⟩; rw [K2.out]))
        refine (packetValid_any e t _ a2 _ c2 ya _ yc H (packR l) (OwnI.ints XO.out).1 (OwnI.ints YO.out).1).mono ?_
        rintro q w4 ⟨rfl, g4⟩
        rw [K3.out]
        have R4 := Lib.hid (blkK g4 R2.out (by simp))
        have D4 := Lib.hid (blkK g4 D2.out (by simp))
        have G4 := Lib.hid (grown_trans GP.out g4)
        have X4 := Lib.hid (OwnI.grown XO.out g4)
        have Y4 := Lib.hid (OwnI.grown YO.out g4)
        clear c0 e0 e1 e2 e3 g4
        cases b3 with
        | false =>
          have B := Lib.hid (show fillB f e H t l = false by rw [V.out]; rfl)
          have A := Lib.hid (fillR_no B.out)
          have d0 := blkC R4.out 0 rfl
          have d1 := blkC R4.out 1 rfl
          have d2 := blkC R4.out 2 rfl
          have d3 := blkC R4.out 3 rfl
          have f0 := blkF R4.out 0
          have f1 := blkF R4.out 1
          have f2 := blkF R4.out 2
          have f3 := blkF R4.out 3
          have gs := grown_trans (grown_trans (grown_trans (grown_set w4 (w.heap.size + 1) 0 (.int .i64 0)) (grown_set _ (w.heap.size + 1) 1 (.slice none 0 0))) (grown_set _ (w.heap.size + 1) 2 (.int .i64 0))) (grown_set _ (w.heap.size + 1) 3 (.slice none 0 0))
          have GZ := Lib.hid (grown_new G4.out gs (by omega))
          clear gs
          go_wp2_with (first | (go_at_call 50; refine (isName_any _ _).mono ?_; rintro q w' ⟨rfl, rfl⟩; rw [K2.out]))
          refine bodyPost_ret (v := .tuple #[.agg #[.int .i64 0, .slice none 0 0, .int .i64 0, .slice none 0 0], .bool false]) ?_ rfl (pk_no A.out B.out GZ.out)
          (simp only [results, Try.results17]; go_simp)
        | true =>
          have B := Lib.hid (show fillB f e H t l = true by rw [V.out]; rfl)
          have A := Lib.hid (fillR_yes B.out)
          have d0 := blkC R4.out 0 rfl
          have d1 := blkC R4.out 1 rfl
          have d2 := blkC R4.out 2 rfl
          have d3 := blkC R4.out 3 rfl
          have f0 := blkF R4.out 0
          have f1 := blkF R4.out 1
          have f2 := blkF R4.out 2
          have f3 := blkF R4.out 3
          have e0 := blkC D4.out 0 rfl
          have e1 := blkC D4.out 1 rfl
          have e2 := blkC D4.out 2 rfl
          have e3 := blkC D4.out 3 rfl
          have gs := grown_trans (grown_trans (grown_trans (grown_set w4 (w.heap.size + 1) 0 (.int .i64 e)) (grown_set _ (w.heap.size + 1) 1 (.slice a2 H.length c2))) (grown_set _ (w.heap.size + 1) 2 (.int .i64 t))) (grown_set _ (w.heap.size + 1) 3 (.slice ya LN yc))
          have GZ := Lib.hid (grown_new G4.out gs (by omega))
          have XZ := Lib.hid (OwnI.row X4.out gs (fun k e => by simp at e; have := S1.out; omega))
          have YZ := Lib.hid (OwnI.row Y4.out gs (fun k e => by simp at e; have := WS.out; omega))
          clear gs
          go_wp2_with (first | (go_at_call 50; refine (isName_any _ _).mono ?_; rintro q w' ⟨rfl, rfl⟩; rw [K2.out]))
          refine bodyPost_ret (v := .tuple #[.agg #[.int .i64 e, .slice a2 H.length c2, .int .i64 t, .slice ya LN yc], .bool true]) ?_ rfl ?_
          · (simp only [results, Try.results17]; go_simp)
          · rw [A.out, B.out]
            refine ⟨a2, c2, ya, yc, ?_, ?_, ?_, GZ.out⟩
            · rw [HLN.out]
            · exact Own.lower XZ.out (by have := S1.out; simp; omega)
            · rw [HLN.out]; exact Own.lower YZ.out (by have := WS.out; omega)
  · have GD : w1.grownBy w2 none := grown_trans (gDrew (grown_alloc _ _ none)) g2
    have LX1 := Lib.hid (show ∀ k, (Value.slice a2 H.length c2).ownBlock = some k → w1.heap.size + 1 ≤ k from fun k e => by have := (World.ownsRow.lt o2 k e).1; simp at this; omega)
    replace o2 : OwnI w1.heap.size w2 (.slice a2 H.length c2) H := Own.lower o2 (by simp)
    clear y0 y1 y2 u0 u1 u2 g2 d0 d1 d2 d3 f0 f1 f2 f3
    have gb := (grown_trans (grown_trans (grown_trans (grown_set w2 w1.heap.size 0 (.int .i64 e)) (grown_set _ w1.heap.size 1 (.slice a2 H.length c2))) (grown_set _ w1.heap.size 2 (.int .i64 t))) (grown_set _ w1.heap.size 3 (.slice ya LN yc)))
    have G2 := Lib.hid (grown_trans G0.out (grown_trans G1.out GD))
    have LY := Lib.hid (World.ownsRow.lt Y1.out)
    have XO := Lib.hid (Own.apart o2 gb (ap_ne (fun k e => by have := LX1.out k e; omega)))
    have YO := Lib.hid (Own.apart (OwnI.grown Y1.out GD) gb (ap_ne (fun k e => by have := (LY.out k e).2; omega)))
    have GP := Lib.hid (grown_new G2.out gb (by have := S1.out; omega))
    have D2 := Lib.hid (show ((((w2.setCell ⟨w1.heap.size, 0, none⟩ (.int .i64 e)).setCell ⟨w1.heap.size, 1, none⟩ (.slice a2 H.length c2)).setCell ⟨w1.heap.size, 2, none⟩ (.int .i64 t)).setCell ⟨w1.heap.size, 3, none⟩ (.slice ya LN yc)).heap[w1.heap.size]? = some (.cells #[.int .i64 e, .slice a2 H.length c2, .int .i64 t, .slice ya LN yc] 35) from box4 P0.out _ _ _ _)
    have R2 := Lib.hid (blkK gb (blkK GD R1.out (by simp)) (by have := S1.out; simp; omega))
    have B2 := Lib.hid (blkK gb (blkK GD D1.out (by simp)) (by have := S1.out; simp; omega))
    clear o2 GD x0 x1 x2 z0 z1 z2 P0 gb LY
    obtain ⟨w3, hw3⟩ : ∃ x, ((((w2.setCell ⟨w1.heap.size, 0, none⟩ (.int .i64 e)).setCell ⟨w1.heap.size, 1, none⟩ (.slice a2 H.length c2)).setCell ⟨w1.heap.size, 2, none⟩ (.int .i64 t)).setCell ⟨w1.heap.size, 3, none⟩ (.slice ya LN yc)) = x := ⟨_, rfl⟩
    rw [hw3] at XO YO GP D2 R2 B2 ⊢
    clear hw3
    have c0 := blkC B2.out 0 rfl
    have e0 := blkC D2.out 0 rfl
    have e1 := blkC D2.out 1 rfl
    have e2 := blkC D2.out 2 rfl
    have e3 := blkC D2.out 3 rfl
    cases b1 with
    | false =>
      have B := Lib.hid (show fillB f e H t l = false by rw [V.out]; rfl)
      have A := Lib.hid (fillR_no B.out)
      have d0 := blkC R2.out 0 rfl
      have d1 := blkC R2.out 1 rfl
      have d2 := blkC R2.out 2 rfl
      have d3 := blkC R2.out 3 rfl
      have f0 := blkF R2.out 0
      have f1 := blkF R2.out 1
      have f2 := blkF R2.out 2
      have f3 := blkF R2.out 3
      have gs := grown_trans (grown_trans (grown_trans (grown_set w3 (w.heap.size + 1) 0 (.int .i64 0)) (grown_set _ (w.heap.size + 1) 1 (.slice none 0 0))) (grown_set _ (w.heap.size + 1) 2 (.int .i64 0))) (grown_set _ (w.heap.size + 1) 3 (.slice none 0 0))
      have GZ := Lib.hid (grown_new GP.out gs (by omega))
      clear gs
      go_wp2_with (first | (go_at_call 50; refine (isName_any _ _).mono ?_; rintro q w' ⟨rfl, rfl⟩; rw [K2.out]))
      refine bodyPost_ret (v := .tuple #[.agg #[.int .i64 0, .slice none 0 0, .int .i64 0, .slice none 0 0], .bool false]) ?_ rfl (pk_no A.out B.out GZ.out)
      (simp only [results, Try.results17]; go_simp)
    | true =>
      cases b2 with
      | false =>
        have B := Lib.hid (show fillB f e H t l = false by rw [V.out]; rfl)
        have A := Lib.hid (fillR_no B.out)
        have d0 := blkC R2.out 0 rfl
        have d1 := blkC R2.out 1 rfl
        have d2 := blkC R2.out 2 rfl
        have d3 := blkC R2.out 3 rfl
        have f0 := blkF R2.out 0
        have f1 := blkF R2.out 1
        have f2 := blkF R2.out 2
        have f3 := blkF R2.out 3
        have gs := grown_trans (grown_trans (grown_trans (grown_set w3 (w.heap.size + 1) 0 (.int .i64 0)) (grown_set _ (w.heap.size + 1) 1 (.slice none 0 0))) (grown_set _ (w.heap.size + 1) 2 (.int .i64 0))) (grown_set _ (w.heap.size + 1) 3 (.slice none 0 0))
        have GZ := Lib.hid (grown_new GP.out gs (by omega))
        clear gs
        go_wp2_with (first | (go_at_call 50; refine (isName_any _ _).mono ?_; rintro q w' ⟨rfl, rfl⟩; rw [K2.out]))
        refine bodyPost_ret (v := .tuple #[.agg #[.int .i64 0, .slice none 0 0, .int .i64 0, .slice none 0 0], .bool false]) ?_ rfl (pk_no A.out B.out GZ.out)
        (simp only [results, Try.results17]; go_simp)
      | true =>
        go_wp2_with (first | (go_at_call 50; refine (isName_any _ _).mono ?_; rintro q w' ⟨rfl, rfl⟩; rw [K2.out]))
        refine (packetValid_any e t _ a2 _ c2 ya _ yc H (packR l) (OwnI.ints XO.out).1 (OwnI.ints YO.out).1).mono ?_
        rintro q w4 ⟨rfl, g4⟩
        rw [K3.out]
        have R4 := Lib.hid (blkK g4 R2.out (by simp))
        have D4 := Lib.hid (blkK g4 D2.out (by simp))
        have G4 := Lib.hid (grown_trans GP.out g4)
        have X4 := Lib.hid (OwnI.grown XO.out g4)
        have Y4 := Lib.hid (OwnI.grown YO.out g4)
        clear c0 e0 e1 e2 e3 g4
        cases b3 with
        | false =>
          have B := Lib.hid (show fillB f e H t l = false by rw [V.out]; rfl)
          have A := Lib.hid (fillR_no B.out)
          have d0 := blkC R4.out 0 rfl
          have d1 := blkC R4.out 1 rfl
          have d2 := blkC R4.out 2 rfl
          have d3 := blkC R4.out 3 rfl
          have f0 := blkF R4.out 0
          have f1 := blkF R4.out 1
          have f2 := blkF R4.out 2
          have f3 := blkF R4.out 3
          have gs := grown_trans (grown_trans (grown_trans (grown_set w4 (w.heap.size + 1) 0 (.int .i64 0)) (grown_set _ (w.heap.size + 1) 1 (.slice none 0 0))) (grown_set _ (w.heap.size + 1) 2 (.int .i64 0))) (grown_set _ (w.heap.size + 1) 3 (.slice none 0 0))
          have GZ := Lib.hid (grown_new G4.out gs (by omega))
          clear gs
          go_wp2_with (first | (go_at_call 50; refine (isName_any _ _).mono ?_; rintro q w' ⟨rfl, rfl⟩; rw [K2.out]))
          refine bodyPost_ret (v := .tuple #[.agg #[.int .i64 0, .slice none 0 0, .int .i64 0, .slice none 0 0], .bool false]) ?_ rfl (pk_no A.out B.out GZ.out)
          (simp only [results, Try.results17]; go_simp)
        | true =>
          have B := Lib.hid (show fillB f e H t l = true by rw [V.out]; rfl)
          have A := Lib.hid (fillR_yes B.out)
          have d0 := blkC R4.out 0 rfl
          have d1 := blkC R4.out 1 rfl
          have d2 := blkC R4.out 2 rfl
          have d3 := blkC R4.out 3 rfl
          have f0 := blkF R4.out 0
          have f1 := blkF R4.out 1
          have f2 := blkF R4.out 2
          have f3 := blkF R4.out 3
          have e0 := blkC D4.out 0 rfl
          have e1 := blkC D4.out 1 rfl
          have e2 := blkC D4.out 2 rfl
          have e3 := blkC D4.out 3 rfl
          have gs := grown_trans (grown_trans (grown_trans (grown_set w4 (w.heap.size + 1) 0 (.int .i64 e)) (grown_set _ (w.heap.size + 1) 1 (.slice a2 H.length c2))) (grown_set _ (w.heap.size + 1) 2 (.int .i64 t))) (grown_set _ (w.heap.size + 1) 3 (.slice ya LN yc))
          have GZ := Lib.hid (grown_new G4.out gs (by omega))
          have XZ := Lib.hid (OwnI.row X4.out gs (fun k e => by simp at e; have := S1.out; omega))
          have YZ := Lib.hid (OwnI.row Y4.out gs (fun k e => by simp at e; have := WS.out; omega))
          clear gs
          go_wp2_with (first | (go_at_call 50; refine (isName_any _ _).mono ?_; rintro q w' ⟨rfl, rfl⟩; rw [K2.out]))
          refine bodyPost_ret (v := .tuple #[.agg #[.int .i64 e, .slice a2 H.length c2, .int .i64 t, .slice ya LN yc], .bool true]) ?_ rfl ?_
          · (simp only [results, Try.results17]; go_simp)
          · rw [A.out, B.out]
            refine ⟨a2, c2, ya, yc, ?_, ?_, ?_, GZ.out⟩
            · rw [HLN.out]
            · exact Own.lower XZ.out (by have := S1.out; simp; omega)
            · rw [HLN.out]; exact Own.lower YZ.out (by have := WS.out; omega)
end Go.Proofs.Ytedpkhboepahgaa
