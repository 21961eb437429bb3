/- Blocks filled, of the reference: ReplyFill. -/
import Derived.Test.YtedpkhboepahgaaRf
import Derived.WalkKit
import Derived.Lib.Hide
import Derived.Deep.QuietTactic
import Derived.BigQuiet
import Derived.OwnWalk
import Derived.Deep.RegionHeld3
namespace Go.Proofs.Ytedpkhboepahgaa
open Go.RowKit
theorem own_ne {B : Nat} {w : World} {v : Value} {xs : List Int} {X k : Nat} {cs : Array Value} {ty : TypeId} {fr : Nat × Nat} (h : OwnI B w v xs) (hX : w.heap[X]? = some (.cells cs ty fr)) (ht : ty ≠ 3) (e : v.ownBlock = some k) : k ≠ X := by
  rintro rfl
  rcases h.2 with ⟨rfl, hn⟩ | ⟨g, cap, cur, rfl, hb, hg, hnc, hcm, hcs, htake⟩
  · simp [Value.ownBlock] at e
  · simp [Value.ownBlock] at e
    subst e
    rw [hg] at hX
    simp only [Option.some.injEq, Obj.cells.injEq] at hX
    exact ht hX.2.1.symm
set_option maxRecDepth 8000 in
set_option maxHeartbeats 2000000 in
theorem replyFillS_any (f e t : Int) (w : World) (ha : Option Addr) (hn hc : Nat) (la : Option Addr) (ln lc : Nat) (H l : List Int) (h : IntsAt w ha hn hc H) (h' : IntsAt w la ln lc l) (hs : hn ≤ 1000) :
    Calls Try.prog 28 #[.agg #[.int .i64 f, .int .i64 e, .slice ha hn hc, .int .i64 t], .slice la ln lc] w (PkPost w (fillR f e H t l) (fillB f e H t l)) := by
  have G0 := Lib.hid (show w.grownBy ((w.alloc (.cells #[.int .i64 f, .int .i64 e, .slice ha hn hc, .int .i64 t] 27)).alloc pk0) none from gAlloc (grown_alloc w _ none) _)
  have D0 := Lib.hid (show ((w.alloc (.cells #[.int .i64 f, .int .i64 e, .slice ha hn hc, .int .i64 t] 27)).alloc pk0).heap[w.heap.size]? = some (.cells #[.int .i64 f, .int .i64 e, .slice ha hn hc, .int .i64 t] 27) from blkA (heap_alloc_new w _))
  have R0 := Lib.hid (show ((w.alloc (.cells #[.int .i64 f, .int .i64 e, .slice ha hn hc, .int .i64 t] 27)).alloc pk0).heap[w.heap.size + 1]? = some pk0 from heap_next (by simp))
  have WS := Lib.hid (show ((w.alloc (.cells #[.int .i64 f, .int .i64 e, .slice ha hn hc, .int .i64 t] 27)).alloc pk0).heap.size = w.heap.size + 2 by simp)
  have I0 := Lib.hid (h.grown G0.out)
  have J0 := Lib.hid (h'.grown G0.out)
  have LH := Lib.hid h.len
  clear h h'
  go_enter Try.func28, Try.ntmps28
  go_wp2_with fail
  refine (letterPackS_any _ _ _ _ l J0.out).mono ?_
  rintro q w1 ⟨ya, yc, rfl, oy, g1⟩
  obtain ⟨LN, hLN⟩ : ∃ N, (packR l).length = N := ⟨_, rfl⟩
  rw [hLN] at oy ⊢
  obtain ⟨b1, k1⟩ : ∃ b, pb (PackP l) = b := ⟨_, rfl⟩
  rw [k1]
  obtain ⟨b2, k2⟩ : ∃ b, nmB f = b := ⟨_, rfl⟩
  obtain ⟨b3, k3⟩ : ∃ b, vB e H t (packR l) = b := ⟨_, rfl⟩
  have V := Lib.hid (show fillB f e H t l = (b1 && b2 && b3) by rw [fillB, k1, k2, k3])
  have K2 := Lib.hid k2
  have K3 := Lib.hid k3
  have HLN := Lib.hid hLN
  have Y1 := Lib.hid oy
  have G1 := Lib.hid g1
  have I1 := Lib.hid (show IntsAt w1 ha hn hc H from I0.out.grown g1)
  have D1 := Lib.hid (blkK g1 D0.out (by simp))
  have R1 := Lib.hid (blkK g1 R0.out (by simp))
  have S1 := Lib.hid (show w.heap.size + 2 ≤ w1.heap.size by rw [← WS.out]; exact g1.size)
  clear hLN k1 k2 k3 oy g1 I0 J0
  have x0 : w1.drew.cell? ⟨w.heap.size, 1, none⟩ = some (.int .i64 e) := blkC D1.out 1 rfl
  have x1 : w1.drew.cell? ⟨w.heap.size, 2, none⟩ = some (.slice ha hn hc) := blkC D1.out 2 rfl
  have x2 : w1.drew.cell? ⟨w.heap.size, 3, none⟩ = some (.int .i64 t) := blkC D1.out 3 rfl
  have z0 : (w1.alloc pk0).drew.cell? ⟨w.heap.size, 1, none⟩ = some (.int .i64 e) := blkC (blkA D1.out) 1 rfl
  have z1 : (w1.alloc pk0).drew.cell? ⟨w.heap.size, 2, none⟩ = some (.slice ha hn hc) := blkC (blkA D1.out) 2 rfl
  have z2 : (w1.alloc pk0).drew.cell? ⟨w.heap.size, 3, none⟩ = some (.int .i64 t) := blkC (blkA D1.out) 3 rfl
  have nb1 : some w.heap.size ≠ some w1.heap.size := by have := S1.out; simp; omega
  have p0 : World.cell? (w1.alloc (.cells #[] 3)).drew ⟨w.heap.size, 1, none⟩ = some (.int .i64 e) := (show w1.grownBy (w1.alloc (.cells #[] 3)).drew none from (by (repeat (with_reducible (first | refine gDrew ?_ | refine gDrewN ?_ _ | refine gAlloc ?_ _))); exact grown_refl _ _)).cell x0 (by simp)
  have p1 : World.cell? (w1.alloc (.cells #[] 3)).drew ⟨w.heap.size, 2, none⟩ = some (.slice ha hn hc) := (show w1.grownBy (w1.alloc (.cells #[] 3)).drew none from (by (repeat (with_reducible (first | refine gDrew ?_ | refine gDrewN ?_ _ | refine gAlloc ?_ _))); exact grown_refl _ _)).cell x1 (by simp)
  have p2 : World.cell? (w1.alloc (.cells #[] 3)).drew ⟨w.heap.size, 3, none⟩ = some (.int .i64 t) := (show w1.grownBy (w1.alloc (.cells #[] 3)).drew none from (by (repeat (with_reducible (first | refine gDrew ?_ | refine gDrewN ?_ _ | refine gAlloc ?_ _))); exact grown_refl _ _)).cell x2 (by simp)
  have q0 : World.cell? ((w1.alloc (.cells #[] 3)).alloc pk0).drew ⟨w.heap.size, 1, none⟩ = some (.int .i64 e) := (show w1.grownBy ((w1.alloc (.cells #[] 3)).alloc pk0).drew none from (by (repeat (with_reducible (first | refine gDrew ?_ | refine gDrewN ?_ _ | refine gAlloc ?_ _))); exact grown_refl _ _)).cell x0 (by simp)
  have q1 : World.cell? ((w1.alloc (.cells #[] 3)).alloc pk0).drew ⟨w.heap.size, 2, none⟩ = some (.slice ha hn hc) := (show w1.grownBy ((w1.alloc (.cells #[] 3)).alloc pk0).drew none from (by (repeat (with_reducible (first | refine gDrew ?_ | refine gDrewN ?_ _ | refine gAlloc ?_ _))); exact grown_refl _ _)).cell x1 (by simp)
  have q2 : World.cell? ((w1.alloc (.cells #[] 3)).alloc pk0).drew ⟨w.heap.size, 3, none⟩ = some (.int .i64 t) := (show w1.grownBy ((w1.alloc (.cells #[] 3)).alloc pk0).drew none from (by (repeat (with_reducible (first | refine gDrew ?_ | refine gDrewN ?_ _ | refine gAlloc ?_ _))); exact grown_refl _ _)).cell x2 (by simp)
  have r0 : World.cell? ((w1.alloc pk0).alloc (.cells #[] 3)).drew ⟨w.heap.size, 1, none⟩ = some (.int .i64 e) := (show w1.grownBy ((w1.alloc pk0).alloc (.cells #[] 3)).drew none from (by (repeat (with_reducible (first | refine gDrew ?_ | refine gDrewN ?_ _ | refine gAlloc ?_ _))); exact grown_refl _ _)).cell x0 (by simp)
  have r1 : World.cell? ((w1.alloc pk0).alloc (.cells #[] 3)).drew ⟨w.heap.size, 2, none⟩ = some (.slice ha hn hc) := (show w1.grownBy ((w1.alloc pk0).alloc (.cells #[] 3)).drew none from (by (repeat (with_reducible (first | refine gDrew ?_ | refine gDrewN ?_ _ | refine gAlloc ?_ _))); exact grown_refl _ _)).cell x1 (by simp)
  have r2 : World.cell? ((w1.alloc pk0).alloc (.cells #[] 3)).drew ⟨w.heap.size, 3, none⟩ = some (.int .i64 t) := (show w1.grownBy ((w1.alloc pk0).alloc (.cells #[] 3)).drew none from (by (repeat (with_reducible (first | refine gDrew ?_ | refine gDrewN ?_ _ | refine gAlloc ?_ _))); exact grown_refl _ _)).cell x2 (by simp)
  go_wp2_with fail
  go_region_held3 (fun w' => w'.cell? ⟨w.heap.size, 1, none⟩ = some (.int .i64 e) ∧ w'.cell? ⟨w.heap.size, 2, none⟩ = some (.slice ha hn hc) ∧ w'.cell? ⟨w.heap.size, 3, none⟩ = some (.int .i64 t)) (first | go_keep | with_reducible exact ⟨x0, x1, x2⟩ | with_reducible exact ⟨z0, z1, z2⟩ | with_reducible exact ⟨y0, y1, y2⟩ | with_reducible exact ⟨v0, v1, v2⟩ | with_reducible exact ⟨u0, u1, u2⟩ | with_reducible exact ⟨p0, p1, p2⟩ | with_reducible exact ⟨q0, q1, q2⟩ | with_reducible exact ⟨r0, r1, r2⟩)
    (first
      | (refine step_ints (B := w1.heap.size) rfl (.tmp 16) (.tmp 18) rfl (own_nil_at (N := w1.heap.size) (show (w1.alloc (.cells #[] 3)).drew.heap[w1.heap.size]? = some _ from by first | exact heap_alloc_new _ _ | exact heap_next (by simp) | exact blkA (heap_alloc_new _ _)) (by omega)) (show IntsAt (w1.alloc (.cells #[] 3)).drew ha hn hc H from I1.out.grown (by (repeat (with_reducible (first | refine gDrew ?_ | refine gDrewN ?_ _ | refine gAlloc ?_ _))); exact grown_refl _ _)) rfl rfl (show w1.grownBy (w1.alloc (.cells #[] 3)).drew none from (by (repeat (with_reducible (first | refine gDrew ?_ | refine gDrewN ?_ _ | refine gAlloc ?_ _))); exact grown_refl _ _)).size (by rw [LH.out]; simp; omega) ?_; intro v2 w2 o2 g2; rw [List.nil_append] at o2; obtain ⟨a2, c2, rfl, -, -⟩ := OwnI.shape o2; have GD := grown_new (show w1.grownBy (w1.alloc (.cells #[] 3)).drew none from (by (repeat (with_reducible (first | refine gDrew ?_ | refine gDrewN ?_ _ | refine gAlloc ?_ _))); exact grown_refl _ _)) g2 (by simp); have y0 := GD.cell x0 (by simp); have y1 := GD.cell x1 (by simp); have y2 := GD.cell x2 (by simp); have v0 := (grown_alloc w2 pk0 none).cell y0 (by simp); have v1 := (grown_alloc w2 pk0 none).cell y1 (by simp); have v2 := (grown_alloc w2 pk0 none).cell y2 (by simp); have LX2 := Lib.hid GD.size; have P0 := Lib.hid (heap_alloc_new w2 pk0); have d0 := blkC P0.out 0 rfl; have d1 := blkC P0.out 1 rfl; have d2 := blkC P0.out 2 rfl; have d3 := blkC P0.out 3 rfl; have f0 := blkF P0.out 0; have f1 := blkF P0.out 1; have f2 := blkF P0.out 2; have f3 := blkF P0.out 3; have nb := (show some w.heap.size ≠ some (w2.heap.size) by have := S1.out; have := GD.size; simp; omega); have gsX := (grown_trans (grown_trans (grown_trans (grown_set (w2.alloc pk0) w2.heap.size 0 (.int .i64 e)) (grown_set _ w2.heap.size 1 (.slice a2 H.length c2))) (grown_set _ w2.heap.size 2 (.int .i64 t))) (grown_set _ w2.heap.size 3 (.slice ya LN yc))); have u0 := gsX.cell v0 nb; have u1 := gsX.cell v1 nb; have u2 := gsX.cell v2 nb; clear gsX nb)
      | (refine step_ints (B := w1.heap.size) rfl (.tmp 16) (.tmp 18) rfl (own_nil_at (N := w1.heap.size) (show ((w1.alloc (.cells #[] 3)).alloc pk0).drew.heap[w1.heap.size]? = some _ from by first | exact heap_alloc_new _ _ | exact heap_next (by simp) | exact blkA (heap_alloc_new _ _)) (by omega)) (show IntsAt ((w1.alloc (.cells #[] 3)).alloc pk0).drew ha hn hc H from I1.out.grown (by (repeat (with_reducible (first | refine gDrew ?_ | refine gDrewN ?_ _ | refine gAlloc ?_ _))); exact grown_refl _ _)) rfl rfl (show w1.grownBy ((w1.alloc (.cells #[] 3)).alloc pk0).drew none from (by (repeat (with_reducible (first | refine gDrew ?_ | refine gDrewN ?_ _ | refine gAlloc ?_ _))); exact grown_refl _ _)).size (by rw [LH.out]; simp; omega) ?_; intro v2 w2 o2 g2; rw [List.nil_append] at o2; obtain ⟨a2, c2, rfl, -, -⟩ := OwnI.shape o2; have GD := grown_new (show w1.grownBy ((w1.alloc (.cells #[] 3)).alloc pk0).drew none from (by (repeat (with_reducible (first | refine gDrew ?_ | refine gDrewN ?_ _ | refine gAlloc ?_ _))); exact grown_refl _ _)) g2 (by simp); have y0 := GD.cell x0 (by simp); have y1 := GD.cell x1 (by simp); have y2 := GD.cell x2 (by simp); have P0 := Lib.hid (blkK g2 (show ((w1.alloc (.cells #[] 3)).alloc pk0).drew.heap[w1.heap.size + 1]? = some pk0 from by first | exact heap_alloc_new _ _ | exact heap_next (by simp) | exact blkA (heap_alloc_new _ _)) (by simp [Value.ownBlock])); have d0 := blkC P0.out 0 rfl; have d1 := blkC P0.out 1 rfl; have d2 := blkC P0.out 2 rfl; have d3 := blkC P0.out 3 rfl; have f0 := blkF P0.out 0; have f1 := blkF P0.out 1; have f2 := blkF P0.out 2; have f3 := blkF P0.out 3; have nb := (show some w.heap.size ≠ some (w1.heap.size + 1) by have := S1.out; have := GD.size; simp; omega); have gsX := (grown_trans (grown_trans (grown_trans (grown_set w2 (w1.heap.size + 1) 0 (.int .i64 e)) (grown_set _ (w1.heap.size + 1) 1 (.slice a2 H.length c2))) (grown_set _ (w1.heap.size + 1) 2 (.int .i64 t))) (grown_set _ (w1.heap.size + 1) 3 (.slice ya LN yc))); have u0 := gsX.cell y0 nb; have u1 := gsX.cell y1 nb; have u2 := gsX.cell y2 nb; clear gsX nb)
      | (refine step_ints (B := w1.heap.size) rfl (.tmp 16) (.tmp 18) rfl (own_nil_at (N := w1.heap.size + 1) (show ((w1.alloc pk0).alloc (.cells #[] 3)).drew.heap[w1.heap.size + 1]? = some _ from by first | exact heap_alloc_new _ _ | exact heap_next (by simp) | exact blkA (heap_alloc_new _ _)) (by omega)) (show IntsAt ((w1.alloc pk0).alloc (.cells #[] 3)).drew ha hn hc H from I1.out.grown (by (repeat (with_reducible (first | refine gDrew ?_ | refine gDrewN ?_ _ | refine gAlloc ?_ _))); exact grown_refl _ _)) rfl rfl (show w1.grownBy ((w1.alloc pk0).alloc (.cells #[] 3)).drew none from (by (repeat (with_reducible (first | refine gDrew ?_ | refine gDrewN ?_ _ | refine gAlloc ?_ _))); exact grown_refl _ _)).size (by rw [LH.out]; simp; omega) ?_; intro v2 w2 o2 g2; rw [List.nil_append] at o2; obtain ⟨a2, c2, rfl, -, -⟩ := OwnI.shape o2; have GD := grown_new (show w1.grownBy ((w1.alloc pk0).alloc (.cells #[] 3)).drew none from (by (repeat (with_reducible (first | refine gDrew ?_ | refine gDrewN ?_ _ | refine gAlloc ?_ _))); exact grown_refl _ _)) g2 (by simp); have y0 := GD.cell x0 (by simp); have y1 := GD.cell x1 (by simp); have y2 := GD.cell x2 (by simp); have P0 := Lib.hid (blkK g2 (show ((w1.alloc pk0).alloc (.cells #[] 3)).drew.heap[w1.heap.size]? = some pk0 from by first | exact heap_alloc_new _ _ | exact heap_next (by simp) | exact blkA (heap_alloc_new _ _)) (by simp [Value.ownBlock])); have d0 := blkC P0.out 0 rfl; have d1 := blkC P0.out 1 rfl; have d2 := blkC P0.out 2 rfl; have d3 := blkC P0.out 3 rfl; have f0 := blkF P0.out 0; have f1 := blkF P0.out 1; have f2 := blkF P0.out 2; have f3 := blkF P0.out 3; have nb := (show some w.heap.size ≠ some (w1.heap.size) by have := S1.out; have := GD.size; simp; omega); have gsX := (grown_trans (grown_trans (grown_trans (grown_set w2 w1.heap.size 0 (.int .i64 e)) (grown_set _ w1.heap.size 1 (.slice a2 H.length c2))) (grown_set _ w1.heap.size 2 (.int .i64 t))) (grown_set _ w1.heap.size 3 (.slice ya LN yc))); have u0 := gsX.cell y0 nb; have u1 := gsX.cell y1 nb; have u2 := gsX.cell y2 nb; clear gsX nb))
  · clear v0 v1 v2 p0 p1 p2 q0 q1 q2 r0 r1 r2 y0 y1 y2 u0 u1 u2 g2 d0 d1 d2 d3 f0 f1 f2 f3
    have ga := grown_alloc w2 (.cells #[.int .i64 e, .slice a2 H.length c2, .int .i64 t, .slice ya LN yc] 35) none
    have G2 := Lib.hid (grown_trans G0.out (grown_trans G1.out GD))
    have XO := Lib.hid (OwnI.grown o2 ga)
    have YO := Lib.hid (OwnI.grown (OwnI.grown Y1.out GD) ga)
    have GP := Lib.hid (grown_trans G2.out ga)
    have D2 := Lib.hid (heap_alloc_new w2 (.cells #[.int .i64 e, .slice a2 H.length c2, .int .i64 t, .slice ya LN yc] 35))
    have R2 := Lib.hid (blkK (grown_trans GD ga) R1.out (by simp))
    have B2 := Lib.hid (blkK (grown_trans GD ga) D1.out (by simp))
    clear o2 GD x0 x1 x2 z0 z1 z2 P0 ga
    obtain ⟨w3, hw3⟩ : ∃ x, (w2.alloc (.cells #[.int .i64 e, .slice a2 H.length c2, .int .i64 t, .slice ya LN yc] 35)) = x := ⟨_, rfl⟩
    rw [hw3] at XO YO GP D2 R2 B2 ⊢
    clear hw3
    have c0 := blkC B2.out 0 rfl
    have e0 := blkC D2.out 0 rfl
    have e1 := blkC D2.out 1 rfl
    have e2 := blkC D2.out 2 rfl
    have e3 := blkC D2.out 3 rfl
    cases b1 with
    | false =>
      have B := Lib.hid (show fillB f e H t l = false by rw [V.out]; rfl)
      have A := Lib.hid (fillR_no B.out)
      have d0 := blkC R2.out 0 rfl
      have d1 := blkC R2.out 1 rfl
      have d2 := blkC R2.out 2 rfl
      have d3 := blkC R2.out 3 rfl
      have f0 := blkF R2.out 0
      have f1 := blkF R2.out 1
      have f2 := blkF R2.out 2
      have f3 := blkF R2.out 3
      have gs := grown_trans (grown_trans (grown_trans (grown_set w3 (w.heap.size + 1) 0 (.int .i64 0)) (grown_set _ (w.heap.size + 1) 1 (.slice none 0 0))) (grown_set _ (w.heap.size + 1) 2 (.int .i64 0))) (grown_set _ (w.heap.size + 1) 3 (.slice none 0 0))
      have GZ := Lib.hid (grown_new GP.out gs (by omega))
      clear gs
      go_wp2_with (first | (go_at_call 74; refine (l6In_any _ _ _ _).mono ?_; rintro q w' ⟨rfl, rfl⟩; rw [show inB f 0 7 = _ from K2.out]))
      refine bodyPost_ret (v := .tuple #[.agg #[.int .i64 0, .slice none 0 0, .int .i64 0, .slice none 0 0], .bool false]) ?_ rfl (pk_no A.out B.out GZ.out)
      (simp only [results, Try.results28]; go_simp)
    | true =>
      cases b2 with
      | false =>
        have B := Lib.hid (show fillB f e H t l = false by rw [V.out]; rfl)
        have A := Lib.hid (fillR_no B.out)
        have d0 := blkC R2.out 0 rfl
        have d1 := blkC R2.out 1 rfl
        have d2 := blkC R2.out 2 rfl
        have d3 := blkC R2.out 3 rfl
        have f0 := blkF R2.out 0
        have f1 := blkF R2.out 1
        have f2 := blkF R2.out 2
        have f3 := blkF R2.out 3
        have gs := grown_trans (grown_trans (grown_trans (grown_set w3 (w.heap.size + 1) 0 (.int .i64 0)) (grown_set _ (w.heap.size + 1) 1 (.slice none 0 0))) (grown_set _ (w.heap.size + 1) 2 (.int .i64 0))) (grown_set _ (w.heap.size + 1) 3 (.slice none 0 0))
        have GZ := Lib.hid (grown_new GP.out gs (by omega))
        clear gs
        go_wp2_with (first | (go_at_call 74; refine (l6In_any _ _ _ _).mono ?_; rintro q w' ⟨rfl, rfl⟩; rw [show inB f 0 7 = _ from K2.out]))
        refine bodyPost_ret (v := .tuple #[.agg #[.int .i64 0, .slice none 0 0, .int .i64 0, .slice none 0 0], .bool false]) ?_ rfl (pk_no A.out B.out GZ.out)
        (simp only [results, Try.results28]; go_simp)
      | true =>
        go_wp2_with (first | (go_at_call 74; refine (l6In_any _ _ _ _).mono ?_; rintro q w' ⟨rfl, rfl⟩; rw [show inB f 0 7 = _ from K2.out]))
        refine (packetValidS_any e t _ a2 _ c2 ya _ yc H (packR l) (OwnI.ints XO.out).1 (OwnI.ints YO.out).1).mono ?_
        rintro q w4 ⟨rfl, g4⟩
        rw [K3.out]
        have R4 := Lib.hid (blkK g4 R2.out (by simp))
        have D4 := Lib.hid (blkK g4 D2.out (by simp))
        have G4 := Lib.hid (grown_trans GP.out g4)
        have X4 := Lib.hid (OwnI.grown XO.out g4)
        have Y4 := Lib.hid (OwnI.grown YO.out g4)
        clear c0 e0 e1 e2 e3 g4
        cases b3 with
        | false =>
          have B := Lib.hid (show fillB f e H t l = false by rw [V.out]; rfl)
          have A := Lib.hid (fillR_no B.out)
          have d0 := blkC R4.out 0 rfl
          have d1 := blkC R4.out 1 rfl
          have d2 := blkC R4.out 2 rfl
          have d3 := blkC R4.out 3 rfl
          have f0 := blkF R4.out 0
          have f1 := blkF R4.out 1
          have f2 := blkF R4.out 2
          have f3 := blkF R4.out 3
          have gs := grown_trans (grown_trans (grown_trans (grown_set w4 (w.heap.size + 1) 0 (.int .i64 0)) (grown_set _ (w.heap.size + 1) 1 (.slice none 0 0))) (grown_set _ (w.heap.size + 1) 2 (.int .i64 0))) (grown_set _ (w.heap.size + 1) 3 (.slice none 0 0))
          have GZ := Lib.hid (grown_new G4.out gs (by omega))
          clear gs
          go_wp2_with (first | (go_at_call 74; refine (l6In_any _ _ _ _).mono ?_; rintro q w' ⟨rfl, rfl⟩; rw [show inB f 0 7 = _ from K2.out]))
          refine bodyPost_ret (v := .tuple #[.agg #[.int .i64 0, .slice none 0 0, .int .i64 0, .slice none 0 0], .bool false]) ?_ rfl (pk_no A.out B.out GZ.out)
          (simp only [results, Try.results28]; go_simp)
        | true =>
          have B := Lib.hid (show fillB f e H t l = true by rw [V.out]; rfl)
          have A := Lib.hid (fillR_yes B.out)
          have d0 := blkC R4.out 0 rfl
          have d1 := blkC R4.out 1 rfl
          have d2 := blkC R4.out 2 rfl
          have d3 := blkC R4.out 3 rfl
          have f0 := blkF R4.out 0
          have f1 := blkF R4.out 1
          have f2 := blkF R4.out 2
          have f3 := blkF R4.out 3
          have e0 := blkC D4.out 0 rfl
          have e1 := blkC D4.out 1 rfl
          have e2 := blkC D4.out 2 rfl
          have e3 := blkC D4.out 3 rfl
          have gs := grown_trans (grown_trans (grown_trans (grown_set w4 (w.heap.size + 1) 0 (.int .i64 e)) (grown_set _ (w.heap.size + 1) 1 (.slice a2 H.length c2))) (grown_set _ (w.heap.size + 1) 2 (.int .i64 t))) (grown_set _ (w.heap.size + 1) 3 (.slice ya LN yc))
          have GZ := Lib.hid (grown_new G4.out gs (by omega))
          have XZ := Lib.hid (OwnI.row X4.out gs (fun k e => by simp at e; have := S1.out; omega))
          have YZ := Lib.hid (OwnI.row Y4.out gs (fun k e => by simp at e; have := WS.out; omega))
          clear gs
          go_wp2_with (first | (go_at_call 74; refine (l6In_any _ _ _ _).mono ?_; rintro q w' ⟨rfl, rfl⟩; rw [show inB f 0 7 = _ from K2.out]))
          refine bodyPost_ret (v := .tuple #[.agg #[.int .i64 e, .slice a2 H.length c2, .int .i64 t, .slice ya LN yc], .bool true]) ?_ rfl ?_
          · (simp only [results, Try.results28]; go_simp)
          · rw [A.out, B.out]
            refine ⟨a2, c2, ya, yc, ?_, ?_, ?_, GZ.out⟩
            · rw [HLN.out]
            · exact Own.lower XZ.out (by have := S1.out; simp; omega)
            · rw [HLN.out]; exact Own.lower YZ.out (by have := WS.out; omega)
  · clear p0 p1 p2 q0 q1 q2 r0 r1 r2 y0 y1 y2 u0 u1 u2 g2 d0 d1 d2 d3 f0 f1 f2 f3
    have gb := (grown_trans (grown_trans (grown_trans (grown_set w2 (w1.heap.size + 1) 0 (.int .i64 e)) (grown_set _ (w1.heap.size + 1) 1 (.slice a2 H.length c2))) (grown_set _ (w1.heap.size + 1) 2 (.int .i64 t))) (grown_set _ (w1.heap.size + 1) 3 (.slice ya LN yc)))
    have G2 := Lib.hid (grown_trans G0.out (grown_trans G1.out GD))
    have LY := Lib.hid (World.ownsRow.lt Y1.out)
    have XO := Lib.hid (Own.apart o2 gb (ap_ne (fun k e => own_ne o2 P0.out (by decide) e)))
    have YO := Lib.hid (Own.apart (OwnI.grown Y1.out GD) gb (ap_ne (fun k e => by have := (LY.out k e).2; omega)))
    have GP := Lib.hid (grown_new G2.out gb (by have := S1.out; omega))
    have D2 := Lib.hid (show ((((w2.setCell ⟨(w1.heap.size + 1), 0, none⟩ (.int .i64 e)).setCell ⟨(w1.heap.size + 1), 1, none⟩ (.slice a2 H.length c2)).setCell ⟨(w1.heap.size + 1), 2, none⟩ (.int .i64 t)).setCell ⟨(w1.heap.size + 1), 3, none⟩ (.slice ya LN yc)).heap[(w1.heap.size + 1)]? = some (.cells #[.int .i64 e, .slice a2 H.length c2, .int .i64 t, .slice ya LN yc] 35) from box4 P0.out _ _ _ _)
    have R2 := Lib.hid (blkK gb (blkK GD R1.out (by simp)) (by have := S1.out; simp; omega))
    have B2 := Lib.hid (blkK gb (blkK GD D1.out (by simp)) (by have := S1.out; simp; omega))
    clear o2 GD x0 x1 x2 z0 z1 z2 P0 gb LY
    obtain ⟨w3, hw3⟩ : ∃ x, ((((w2.setCell ⟨(w1.heap.size + 1), 0, none⟩ (.int .i64 e)).setCell ⟨(w1.heap.size + 1), 1, none⟩ (.slice a2 H.length c2)).setCell ⟨(w1.heap.size + 1), 2, none⟩ (.int .i64 t)).setCell ⟨(w1.heap.size + 1), 3, none⟩ (.slice ya LN yc)) = x := ⟨_, rfl⟩
    rw [hw3] at XO YO GP D2 R2 B2 ⊢
    clear hw3
    have c0 := blkC B2.out 0 rfl
    have e0 := blkC D2.out 0 rfl
    have e1 := blkC D2.out 1 rfl
    have e2 := blkC D2.out 2 rfl
    have e3 := blkC D2.out 3 rfl
    cases b1 with
    | false =>
      have B := Lib.hid (show fillB f e H t l = false by rw [V.out]; rfl)
      have A := Lib.hid (fillR_no B.out)
      have d0 := blkC R2.out 0 rfl
      have d1 := blkC R2.out 1 rfl
      have d2 := blkC R2.out 2 rfl
      have d3 := blkC R2.out 3 rfl
      have f0 := blkF R2.out 0
      have f1 := blkF R2.out 1
      have f2 := blkF R2.out 2
      have f3 := blkF R2.out 3
      have gs := grown_trans (grown_trans (grown_trans (grown_set w3 (w.heap.size + 1) 0 (.int .i64 0)) (grown_set _ (w.heap.size + 1) 1 (.slice none 0 0))) (grown_set _ (w.heap.size + 1) 2 (.int .i64 0))) (grown_set _ (w.heap.size + 1) 3 (.slice none 0 0))
      have GZ := Lib.hid (grown_new GP.out gs (by omega))
      clear gs
      go_wp2_with (first | (go_at_call 74; refine (l6In_any _ _ _ _).mono ?_; rintro q w' ⟨rfl, rfl⟩; rw [show inB f 0 7 = _ from K2.out]))
      refine bodyPost_ret (v := .tuple #[.agg #[.int .i64 0, .slice none 0 0, .int .i64 0, .slice none 0 0], .bool false]) ?_ rfl (pk_no A.out B.out GZ.out)
      (simp only [results, Try.results28]; go_simp)
    | true =>
      cases b2 with
      | false =>
        have B := Lib.hid (show fillB f e H t l = false by rw [V.out]; rfl)
        have A := Lib.hid (fillR_no B.out)
        have d0 := blkC R2.out 0 rfl
        have d1 := blkC R2.out 1 rfl
        have d2 := blkC R2.out 2 rfl
        have d3 := blkC R2.out 3 rfl
        have f0 := blkF R2.out 0
        have f1 := blkF R2.out 1
        have f2 := blkF R2.out 2
        have f3 := blkF R2.out 3
        have gs := grown_trans (grown_trans (grown_trans (grown_set w3 (w.heap.size + 1) 0 (.int .i64 0)) (grown_set _ (w.heap.size + 1) 1 (.slice none 0 0))) (grown_set _ (w.heap.size + 1) 2 (.int .i64 0))) (grown_set _ (w.heap.size + 1) 3 (.slice none 0 0))
        have GZ := Lib.hid (grown_new GP.out gs (by omega))
        clear gs
        go_wp2_with (first | (go_at_call 74; refine (l6In_any _ _ _ _).mono ?_; rintro q w' ⟨rfl, rfl⟩; rw [show inB f 0 7 = _ from K2.out]))
        refine bodyPost_ret (v := .tuple #[.agg #[.int .i64 0, .slice none 0 0, .int .i64 0, .slice none 0 0], .bool false]) ?_ rfl (pk_no A.out B.out GZ.out)
        (simp only [results, Try.results28]; go_simp)
      | true =>
        go_wp2_with (first | (go_at_call 74; refine (l6In_any _ _ _ _).mono ?_; rintro q w' ⟨rfl, rfl⟩; rw [show inB f 0 7 = _ from K2.out]))
        refine (packetValidS_any e t _ a2 _ c2 ya _ yc H (packR l) (OwnI.ints XO.out).1 (OwnI.ints YO.out).1).mono ?_
        rintro q w4 ⟨rfl, g4⟩
        rw [K3.out]
        have R4 := Lib.hid (blkK g4 R2.out (by simp))
        have D4 := Lib.hid (blkK g4 D2.out (by simp))
        have G4 := Lib.hid (grown_trans GP.out g4)
        have X4 := Lib.hid (OwnI.grown XO.out g4)
        have Y4 := Lib.hid (OwnI.grown YO.out g4)
        clear c0 e0 e1 e2 e3 g4
        cases b3 with
        | false =>
          have B := Lib.hid (show fillB f e H t l = false by rw [V.out]; rfl)
          have A := Lib.hid (fillR_no B.out)
          have d0 := blkC R4.out 0 rfl
          have d1 := blkC R4.out 1 rfl
          have d2 := blkC R4.out 2 rfl
          have d3 := blkC R4.out 3 rfl
          have f0 := blkF R4.out 0
          have f1 := blkF R4.out 1
          have f2 := blkF R4.out 2
          have f3 := blkF R4.out 3
          have gs := grown_trans (grown_trans (grown_trans (grown_set w4 (w.heap.size + 1) 0 (.int .i64 0)) (grown_set _ (w.heap.size + 1) 1 (.slice none 0 0))) (grown_set _ (w.heap.size + 1) 2 (.int .i64 0))) (grown_set _ (w.heap.size + 1) 3 (.slice none 0 0))
          have GZ := Lib.hid (grown_new G4.out gs (by omega))
          clear gs
          go_wp2_with (first | (go_at_call 74; refine (l6In_any _ _ _ _).mono ?_; rintro q w' ⟨rfl, rfl⟩; rw [show inB f 0 7 = _ from K2.out]))
          refine bodyPost_ret (v := .tuple #[.agg #[.int .i64 0, .slice none 0 0, .int .i64 0, .slice none 0 0], .bool false]) ?_ rfl (pk_no A.out B.out GZ.out)
          (simp only [results, Try.results28]; go_simp)
        | true =>
          have B := Lib.hid (show fillB f e H t l = true by rw [V.out]; rfl)
          have A := Lib.hid (fillR_yes B.out)
          have d0 := blkC R4.out 0 rfl
          have d1 := blkC R4.out 1 rfl
          have d2 := blkC R4.out 2 rfl
          have d3 := blkC R4.out 3 rfl
          have f0 := blkF R4.out 0
          have f1 := blkF R4.out 1
          have f2 := blkF R4.out 2
          have f3 := blkF R4.out 3
          have e0 := blkC D4.out 0 rfl
          have e1 := blkC D4.out 1 rfl
          have e2 := blkC D4.out 2 rfl
          have e3 := blkC D4.out 3 rfl
          have gs := grown_trans (grown_trans (grown_trans (grown_set w4 (w.heap.size + 1) 0 (.int .i64 e)) (grown_set _ (w.heap.size + 1) 1 (.slice a2 H.length c2))) (grown_set _ (w.heap.size + 1) 2 (.int .i64 t))) (grown_set _ (w.heap.size + 1) 3 (.slice ya LN yc))
          have GZ := Lib.hid (grown_new G4.out gs (by omega))
          have XZ := Lib.hid (OwnI.row X4.out gs (fun k e => by simp at e; have := S1.out; omega))
          have YZ := Lib.hid (OwnI.row Y4.out gs (fun k e => by simp at e; have := WS.out; omega))
          clear gs
          go_wp2_with (first | (go_at_call 74; refine (l6In_any _ _ _ _).mono ?_; rintro q w' ⟨rfl, rfl⟩; rw [show inB f 0 7 = _ from K2.out]))
          refine bodyPost_ret (v := .tuple #[.agg #[.int .i64 e, .slice a2 H.length c2, .int .i64 t, .slice ya LN yc], .bool true]) ?_ rfl ?_
          · (simp only [results, Try.results28]; go_simp)
          · rw [A.out, B.out]
            refine ⟨a2, c2, ya, yc, ?_, ?_, ?_, GZ.out⟩
            · rw [HLN.out]
            · exact Own.lower XZ.out (by have := S1.out; simp; omega)
            · rw [HLN.out]; exact Own.lower YZ.out (by have := WS.out; omega)
  · clear p0 p1 p2 q0 q1 q2 r0 r1 r2 y0 y1 y2 u0 u1 u2 g2 d0 d1 d2 d3 f0 f1 f2 f3
    have gb := (grown_trans (grown_trans (grown_trans (grown_set w2 w1.heap.size 0 (.int .i64 e)) (grown_set _ w1.heap.size 1 (.slice a2 H.length c2))) (grown_set _ w1.heap.size 2 (.int .i64 t))) (grown_set _ w1.heap.size 3 (.slice ya LN yc)))
    have G2 := Lib.hid (grown_trans G0.out (grown_trans G1.out GD))
    have LY := Lib.hid (World.ownsRow.lt Y1.out)
    have XO := Lib.hid (Own.apart o2 gb (ap_ne (fun k e => own_ne o2 P0.out (by decide) e)))
    have YO := Lib.hid (Own.apart (OwnI.grown Y1.out GD) gb (ap_ne (fun k e => by have := (LY.out k e).2; omega)))
    have GP := Lib.hid (grown_new G2.out gb (by have := S1.out; omega))
    have D2 := Lib.hid (show ((((w2.setCell ⟨w1.heap.size, 0, none⟩ (.int .i64 e)).setCell ⟨w1.heap.size, 1, none⟩ (.slice a2 H.length c2)).setCell ⟨w1.heap.size, 2, none⟩ (.int .i64 t)).setCell ⟨w1.heap.size, 3, none⟩ (.slice ya LN yc)).heap[w1.heap.size]? = some (.cells #[.int .i64 e, .slice a2 H.length c2, .int .i64 t, .slice ya LN yc] 35) from box4 P0.out _ _ _ _)
    have R2 := Lib.hid (blkK gb (blkK GD R1.out (by simp)) (by have := S1.out; simp; omega))
    have B2 := Lib.hid (blkK gb (blkK GD D1.out (by simp)) (by have := S1.out; simp; omega))
    clear o2 GD x0 x1 x2 z0 z1 z2 P0 gb LY
    obtain ⟨w3, hw3⟩ : ∃ x, ((((w2.setCell ⟨w1.heap.size, 0, none⟩ (.int .i64 e)).setCell ⟨w1.heap.size, 1, none⟩ (.slice a2 H.length c2)).setCell ⟨w1.heap.size, 2, none⟩ (.int .i64 t)).setCell ⟨w1.heap.size, 3, none⟩ (.slice ya LN yc)) = x := ⟨_, rfl⟩
    rw [hw3] at XO YO GP D2 R2 B2 ⊢
    clear hw3
    have c0 := blkC B2.out 0 rfl
    have e0 := blkC D2.out 0 rfl
    have e1 := blkC D2.out 1 rfl
    have e2 := blkC D2.out 2 rfl
    have e3 := blkC D2.out 3 rfl
    cases b1 with
    | false =>
      have B := Lib.hid (show fillB f e H t l = false by rw [V.out]; rfl)
      have A := Lib.hid (fillR_no B.out)
      have d0 := blkC R2.out 0 rfl
      have d1 := blkC R2.out 1 rfl
      have d2 := blkC R2.out 2 rfl
      have d3 := blkC R2.out 3 rfl
      have f0 := blkF R2.out 0
      have f1 := blkF R2.out 1
      have f2 := blkF R2.out 2
      have f3 := blkF R2.out 3
      have gs := grown_trans (grown_trans (grown_trans (grown_set w3 (w.heap.size + 1) 0 (.int .i64 0)) (grown_set _ (w.heap.size + 1) 1 (.slice none 0 0))) (grown_set _ (w.heap.size + 1) 2 (.int .i64 0))) (grown_set _ (w.heap.size + 1) 3 (.slice none 0 0))
      have GZ := Lib.hid (grown_new GP.out gs (by omega))
      clear gs
      go_wp2_with (first | (go_at_call 74; refine (l6In_any _ _ _ _).mono ?_; rintro q w' ⟨rfl, rfl⟩; rw [show inB f 0 7 = _ from K2.out]))
      refine bodyPost_ret (v := .tuple #[.agg #[.int .i64 0, .slice none 0 0, .int .i64 0, .slice none 0 0], .bool false]) ?_ rfl (pk_no A.out B.out GZ.out)
      (simp only [results, Try.results28]; go_simp)
    | true =>
      cases b2 with
      | false =>
        have B := Lib.hid (show fillB f e H t l = false by rw [V.out]; rfl)
        have A := Lib.hid (fillR_no B.out)
        have d0 := blkC R2.out 0 rfl
        have d1 := blkC R2.out 1 rfl
        have d2 := blkC R2.out 2 rfl
        have d3 := blkC R2.out 3 rfl
        have f0 := blkF R2.out 0
        have f1 := blkF R2.out 1
        have f2 := blkF R2.out 2
        have f3 := blkF R2.out 3
        have gs := grown_trans (grown_trans (grown_trans (grown_set w3 (w.heap.size + 1) 0 (.int .i64 0)) (grown_set _ (w.heap.size + 1) 1 (.slice none 0 0))) (grown_set _ (w.heap.size + 1) 2 (.int .i64 0))) (grown_set _ (w.heap.size + 1) 3 (.slice none 0 0))
        have GZ := Lib.hid (grown_new GP.out gs (by omega))
        clear gs
        go_wp2_with (first | (go_at_call 74; refine (l6In_any _ _ _ _).mono ?_; rintro q w' ⟨rfl, rfl⟩; rw [show inB f 0 7 = _ from K2.out]))
        refine bodyPost_ret (v := .tuple #[.agg #[.int .i64 0, .slice none 0 0, .int .i64 0, .slice none 0 0], .bool false]) ?_ rfl (pk_no A.out B.out GZ.out)
        (simp only [results, Try.results28]; go_simp)
      | true =>
        go_wp2_with (first | (go_at_call 74; refine (l6In_any _ _ _ _).mono ?_; rintro q w' ⟨rfl, rfl⟩; rw [show inB f 0 7 = _ from K2.out]))
        refine (packetValidS_any e t _ a2 _ c2 ya _ yc H (packR l) (OwnI.ints XO.out).1 (OwnI.ints YO.out).1).mono ?_
        rintro q w4 ⟨rfl, g4⟩
        rw [K3.out]
        have R4 := Lib.hid (blkK g4 R2.out (by simp))
        have D4 := Lib.hid (blkK g4 D2.out (by simp))
        have G4 := Lib.hid (grown_trans GP.out g4)
        have X4 := Lib.hid (OwnI.grown XO.out g4)
        have Y4 := Lib.hid (OwnI.grown YO.out g4)
        clear c0 e0 e1 e2 e3 g4
        cases b3 with
        | false =>
          have B := Lib.hid (show fillB f e H t l = false by rw [V.out]; rfl)
          have A := Lib.hid (fillR_no B.out)
          have d0 := blkC R4.out 0 rfl
          have d1 := blkC R4.out 1 rfl
          have d2 := blkC R4.out 2 rfl
          have d3 := blkC R4.out 3 rfl
          have f0 := blkF R4.out 0
          have f1 := blkF R4.out 1
          have f2 := blkF R4.out 2
          have f3 := blkF R4.out 3
          have gs := grown_trans (grown_trans (grown_trans (grown_set w4 (w.heap.size + 1) 0 (.int .i64 0)) (grown_set _ (w.heap.size + 1) 1 (.slice none 0 0))) (grown_set _ (w.heap.size + 1) 2 (.int .i64 0))) (grown_set _ (w.heap.size + 1) 3 (.slice none 0 0))
          have GZ := Lib.hid (grown_new G4.out gs (by omega))
          clear gs
          go_wp2_with (first | (go_at_call 74; refine (l6In_any _ _ _ _).mono ?_; rintro q w' ⟨rfl, rfl⟩; rw [show inB f 0 7 = _ from K2.out]))
          refine bodyPost_ret (v := .tuple #[.agg #[.int .i64 0, .slice none 0 0, .int .i64 0, .slice none 0 0], .bool false]) ?_ rfl (pk_no A.out B.out GZ.out)
          (simp only [results, Try.results28]; go_simp)
        | true =>
          have B := Lib.hid (show fillB f e H t l = true by rw [V.out]; rfl)
          have A := Lib.hid (fillR_yes B.out)
          have d0 := blkC R4.out 0 rfl
          have d1 := blkC R4.out 1 rfl
          have d2 := blkC R4.out 2 rfl
          have d3 := blkC R4.out 3 rfl
          have f0 := blkF R4.out 0
          have f1 := blkF R4.out 1
          have f2 := blkF R4.out 2
          have f3 := blkF R4.out 3
          have e0 := blkC D4.out 0 rfl
          have e1 := blkC D4.out 1 rfl
          have e2 := blkC D4.out 2 rfl
          have e3 := blkC D4.out 3 rfl
          have gs := grown_trans (grown_trans (grown_trans (grown_set w4 (w.heap.size + 1) 0 (.int .i64 e)) (grown_set _ (w.heap.size + 1) 1 (.slice a2 H.length c2))) (grown_set _ (w.heap.size + 1) 2 (.int .i64 t))) (grown_set _ (w.heap.size + 1) 3 (.slice ya LN yc))
          have GZ := Lib.hid (grown_new G4.out gs (by omega))
          have XZ := Lib.hid (OwnI.row X4.out gs (fun k e => by simp at e; have := S1.out; omega))
          have YZ := Lib.hid (OwnI.row Y4.out gs (fun k e => by simp at e; have := WS.out; omega))
          clear gs
          go_wp2_with (first | (go_at_call 74; refine (l6In_any _ _ _ _).mono ?_; rintro q w' ⟨rfl, rfl⟩; rw [show inB f 0 7 = _ from K2.out]))
          refine bodyPost_ret (v := .tuple #[.agg #[.int .i64 e, .slice a2 H.length c2, .int .i64 t, .slice ya LN yc], .bool true]) ?_ rfl ?_
          · (simp only [results, Try.results28]; go_simp)
          · rw [A.out, B.out]
            refine ⟨a2, c2, ya, yc, ?_, ?_, ?_, GZ.out⟩
            · rw [HLN.out]
            · exact Own.lower XZ.out (by have := S1.out; simp; omega)
            · rw [HLN.out]; exact Own.lower YZ.out (by have := WS.out; omega)
end Go.Proofs.Ytedpkhboepahgaa
