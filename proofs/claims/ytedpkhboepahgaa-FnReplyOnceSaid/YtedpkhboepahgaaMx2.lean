/- Mixes copied. -/
import Derived.Test.YtedpkhboepahgaaMx1
import Derived.WalkKit
import Derived.Lib.Hide
import Derived.Deep.QuietTactic
import Derived.BigQuiet
import Derived.OwnWalk
import Derived.Deep.AppendLies
import Derived.Deep.RegionHeld3
namespace Go.Proofs.Ytedpkhboepahgaa
open Go.RowKit
theorem own6_grown {w w' : World} {B n : Nat} {e : TypeId} {v : Value} {cs : List Value} (h : w.ownsRow B e 6 v n cs) (g : w.grownBy w' none) : w'.ownsRow B e 6 v n cs := by
  refine World.ownsRow.kept h g ?_
  cases v.ownBlock with
  | none => exact .inl rfl
  | some k => exact .inr (by simp)
theorem row_succ {W : World} {B : Nat} {e : TypeId} {size : Nat} {v : Value} {k : Nat} {xs : List Value} (h : W.ownsRow B e size v (k + 1) xs) : ∃ g cap, v = .slice (some ⟨g, 0, none⟩) (k + 1) cap := by
  rcases h.2 with ⟨_, h0⟩ | ⟨g, cap, _, rfl, _⟩
  · omega
  · exact ⟨g, cap, rfl⟩
set_option maxRecDepth 4000 in
set_option maxHeartbeats 2000000 in
theorem copyPeeled1 (p0 p1 e t : Int) (w : World) (pb pc : Nat) (ha : Option Addr) (hc : Nat) (ba : Option Addr) (bc : Nat) (H B : List Int) (hP : PoolAt w pb p0 p1 e ha hc t ba bc) (h : IntsAt w ha 9 hc H) (h' : IntsAt w ba 6 bc B) :
    Calls Try.prog 89 #[.slice (some ⟨pb, 0, none⟩) 1 pc] w fun e w' => ∃ g c, e = .returned (.slice (some ⟨g, 0, none⟩) 1 c) ∧ w.grownBy w' none := by
  obtain ⟨i0, hi, hz0, hz1, hz2⟩ := info_parts info_peel
  have PO := Lib.hid hP
  have HH := Lib.hid h
  have HB := Lib.hid h'
  clear hP h h'
  go_enter Try.func89, Try.ntmps89
  go_wp2_with (at_make; refine wpList_make_own w rfl _ _ 45 rfl w.heap.size 39 i0 _ 6 Try.underlying45 hi hz0 hz1 .i64 .i64 2 2 rfl rfl rfl (by rw [hz2]; omega) (by unfold maxLen; omega) (Nat.le_refl _) ?_; intro w1 o1 g1; refine Hid.out ?_)
  show wpList _ _ _ _ _ _
  have O1 := Lib.hid o1
  have G1 := Lib.hid g1
  clear o1 g1
  go_wp2
  go_loopw [3, 5, 12] (fun u v q wr => ((q = .int .i64 0 ∧ u = .slice (some ⟨w.heap.size, 0, none⟩) 0 2 ∧ Hid (wr.ownsRow w.heap.size 39 6 (.slice (some ⟨w.heap.size, 0, none⟩) 0 2) 0 [])) ∨ (q = .int .i64 1 ∧ ∃ g c, u = .slice (some ⟨g, 0, none⟩) 1 c)) ∧ Hid (w.grownBy wr none)) (fun _ _ q _ => 1 - (intOf q).toNat)
  case atStart => exact ⟨.inl ⟨rfl, rfl, O1⟩, G1⟩
  case round =>
    obtain ⟨hq, hg⟩ := hrel
    clear O1 G1
    rcases hq with ⟨rfl, rfl, OW⟩ | ⟨rfl, g, c, rfl⟩
    · have PA := PO.out.grown hg.out
      obtain ⟨c0, c1, c2, c3, c4, c5⟩ := PA
      have WL := Lib.hid (show w.heap.size < wr.heap.size from (World.ownsRow.lt OW.out w.heap.size rfl).2)
      have nwb : some wr.heap.size ≠ Value.ownBlock (.slice (some ⟨w.heap.size, 0, none⟩) 0 2) := by have := WL.out; simp [Value.ownBlock]; omega
      have D := Lib.hid (heap_alloc_new wr (.cells (peC p0 p1 e ha hc t ba bc).toArray 39))
      have HA := Lib.hid (show IntsAt (wr.alloc (.cells (peC p0 p1 e ha hc t ba bc).toArray 39)).drew ha 9 hc H from HH.out.grown (gDrew (gAlloc hg.out _)))
      have HB5 := Lib.hid (show IntsAt (wr.alloc (.cells (peC p0 p1 e ha hc t ba bc).toArray 39)).drew ba 6 bc B from HB.out.grown (gDrew (gAlloc hg.out _)))
      have x0 := cell_dr (blkC D.out 0 rfl)
      have x1 := cell_dr (blkC D.out 1 rfl)
      have x2 := cell_dr (blkC D.out 2 rfl)
      have x3 := cell_dr (blkC D.out 3 rfl)
      have x4 := cell_dr (blkC D.out 4 rfl)
      have x5 := cell_dr (blkC D.out 5 rfl)
      go_wp2_with fail
      go_region_held3 (fun w' => w'.cell? ⟨wr.heap.size, 0, none⟩ = some (.int .i64 p0) ∧ w'.cell? ⟨wr.heap.size, 1, none⟩ = some (.int .i64 p1) ∧ w'.cell? ⟨wr.heap.size, 2, none⟩ = some (.int .i64 e) ∧ w'.cell? ⟨wr.heap.size, 3, none⟩ = some (.slice ha 9 hc) ∧ w'.cell? ⟨wr.heap.size, 4, none⟩ = some (.int .i64 t) ∧ w'.cell? ⟨wr.heap.size, 5, none⟩ = some (.slice ba 6 bc)) (first | go_keep | with_reducible exact ⟨x0, x1, x2, x3, x4, x5⟩ | with_reducible exact ⟨y0, y1, y2, y3, y4, y5⟩ | with_reducible exact ⟨v0, v1, v2, v3, v4, v5⟩ | with_reducible exact ⟨u0, u1, u2, u3, u4, u5⟩ | with_reducible exact ⟨z0, z1, z2, z3, z4, z5⟩)
        (first
        | (go_at_call 97; refine (copyPacket_any e t _ ha hc ba bc H B HA.out HB5.out).mono ?_; rintro q w6 ⟨xa, xc, ya, yc, rfl, g6⟩; have y0 := g6.cell x0 (by simp); have y1 := g6.cell x1 (by simp); have y2 := g6.cell x2 (by simp); have y3 := g6.cell x3 (by simp); have y4 := g6.cell x4 (by simp); have y5 := g6.cell x5 (by simp); have v0 := (grown_alloc w6 (.cells (peC p0 p1 e xa xc t ya yc).toArray 39) none).cell y0 (by simp); have v1 := (grown_alloc w6 (.cells (peC p0 p1 e xa xc t ya yc).toArray 39) none).cell y1 (by simp); have v2 := (grown_alloc w6 (.cells (peC p0 p1 e xa xc t ya yc).toArray 39) none).cell y2 (by simp); have v3 := (grown_alloc w6 (.cells (peC p0 p1 e xa xc t ya yc).toArray 39) none).cell y3 (by simp); have v4 := (grown_alloc w6 (.cells (peC p0 p1 e xa xc t ya yc).toArray 39) none).cell y4 (by simp); have v5 := (grown_alloc w6 (.cells (peC p0 p1 e xa xc t ya yc).toArray 39) none).cell y5 (by simp); have u0 := cell_dr v0; have u1 := cell_dr v1; have u2 := cell_dr v2; have u3 := cell_dr v3; have u4 := cell_dr v4; have u5 := cell_dr v5; have O6 := Lib.hid (own6_grown (own6_grown OW.out (grown_trans (gDrew (gAlloc (grown_refl wr none) (.cells (peC p0 p1 e ha hc t ba bc).toArray 39))) g6)) (grown_alloc w6 (.cells (peC p0 p1 e xa xc t ya yc).toArray 39) none)); have G6 := Lib.hid (gAlloc (grown_trans hg.out (grown_trans (gDrew (gAlloc (grown_refl wr none) (.cells (peC p0 p1 e ha hc t ba bc).toArray 39))) g6)) (.cells (peC p0 p1 e xa xc t ya yc).toArray 39)))
        | (refine step_peel rfl (.tmp 16) (.tmp 25) rfl O6.out rfl rfl (heap_alloc_new w6 (.cells (peC p0 p1 e xa xc t ya yc).toArray 39)) G6.out.size (by omega) ?_; intro v7 w7 o7 g7; have z0 := g7.cell v0 nwb; have z1 := g7.cell v1 nwb; have z2 := g7.cell v2 nwb; have z3 := g7.cell v3 nwb; have z4 := g7.cell v4 nwb; have z5 := g7.cell v5 nwb))
      all_goals
        obtain ⟨g8, c8, rfl⟩ := row_succ o7
        have G7 := Lib.hid (grown_new G6.out g7 (Nat.le_refl _))
        clear x0 x1 x2 x3 x4 x5 y0 y1 y2 y3 y4 y5 v0 v1 v2 v3 v4 v5 u0 u1 u2 u3 u4 u5 z0 z1 z2 z3 z4 z5 g6 g7 o7 c0 c1 c2 c3 c4 c5
        go_wp2
        go_roundw
        case rel => exact ⟨.inr ⟨rfl, g8, c8, rfl⟩, G7⟩
        case measure => simp [intOf]
    · go_wp2
      go_ret
      exact ⟨g, c, rfl, hg.out⟩
theorem box3 {w : World} {b : Nat} {ty : TypeId} {fr : Nat × Nat} {o0 o1 o2 : Value} (h : w.heap[b]? = some (.cells #[o0, o1, o2] ty fr)) (v0 v1 v2 : Value) :
    (((w.setCell ⟨b, 0, none⟩ v0).setCell ⟨b, 1, none⟩ v1).setCell ⟨b, 2, none⟩ v2).heap[b]? = some (.cells #[v0, v1, v2] ty fr) := by
  rw [heap_setCell_at (heap_setCell_at (heap_setCell_at h v0) v1) v2]
  rfl
theorem own6_row {w w' : World} {B n : Nat} {e : TypeId} {v : Value} {cs : List Value} {row : Option Nat} (h : w.ownsRow B e 6 v n cs) (g : w.grownBy w' row) (hr : ∀ k, row = some k → k < B) : w'.ownsRow B e 6 v n cs := by
  refine World.ownsRow.kept h g ?_
  cases hv : v.ownBlock with
  | none => exact .inl rfl
  | some k =>
    refine .inr fun e => ?_
    have := (World.ownsRow.lt h k hv).1
    have := hr k e.symm
    omega
theorem own6_lower {w : World} {B B' n : Nat} {e : TypeId} {v : Value} {cs : List Value} (h : w.ownsRow B e 6 v n cs) (hB : B' ≤ B) : w.ownsRow B' e 6 v n cs := by
  refine ⟨h.1, ?_⟩
  rcases h.2 with hn | ⟨g, cap, cur, a, hb, r⟩
  · exact .inl hn
  · exact .inr ⟨g, cap, cur, a, Nat.le_trans hB hb, r⟩
set_option maxRecDepth 4000 in
set_option maxHeartbeats 2000000 in
theorem copyMix0 (s : Int) (w : World) :
    Calls Try.prog 61 #[.agg #[.int .i64 s, .slice none 0 0, .slice none 0 0]] w fun e w' => ∃ a c g, e = .returned (.agg #[.int .i64 s, .slice a 0 c, .slice (some ⟨g, 0, none⟩) 0 1]) ∧ OwnI w.heap.size w' (.slice a 0 c) [] ∧ w'.ownsRow w.heap.size 39 6 (.slice (some ⟨g, 0, none⟩) 0 1) 0 [] ∧ w.grownBy w' none := by
  have G0 := Lib.hid (show w.grownBy ((w.alloc (.cells #[.int .i64 s, .slice none 0 0, .slice none 0 0] 47)).alloc mx0) none from gAlloc (grown_alloc w _ none) _)
  have D0 := Lib.hid (show ((w.alloc (.cells #[.int .i64 s, .slice none 0 0, .slice none 0 0] 47)).alloc mx0).heap[w.heap.size]? = some (.cells #[.int .i64 s, .slice none 0 0, .slice none 0 0] 47) from blkA (heap_alloc_new w _))
  have R0 := Lib.hid (show ((w.alloc (.cells #[.int .i64 s, .slice none 0 0, .slice none 0 0] 47)).alloc mx0).heap[w.heap.size + 1]? = some mx0 from heap_next (by simp))
  have RD := Lib.hid (show ((w.alloc (.cells #[.int .i64 s, .slice none 0 0, .slice none 0 0] 47)).alloc mx0).drew.heap[w.heap.size + 1]? = some mx0 from R0.out)
  have WZ := Lib.hid (show ((w.alloc (.cells #[.int .i64 s, .slice none 0 0, .slice none 0 0] 47)).alloc mx0).heap.size = w.heap.size + 2 by simp)
  have HA := Lib.hid (ints_empty (w := ((w.alloc (.cells #[.int .i64 s, .slice none 0 0, .slice none 0 0] 47)).alloc mx0).drew) (ao := none) (c := 0) (by omega) (fun _ => rfl))
  have x0 := cell_dr (blkC D0.out 0 rfl)
  have x1 := cell_dr (blkC D0.out 1 rfl)
  have x2 := cell_dr (blkC D0.out 2 rfl)
  have nx : some w.heap.size ≠ some (w.heap.size + 1) := by simp
  go_enter Try.func61, Try.ntmps61
  go_wp2_with fail
  go_region_held3 (fun w' => w'.cell? ⟨w.heap.size, 0, none⟩ = some (.int .i64 s) ∧ w'.cell? ⟨w.heap.size, 1, none⟩ = some (.slice none 0 0) ∧ w'.cell? ⟨w.heap.size, 2, none⟩ = some (.slice none 0 0)) (first | go_keep | with_reducible exact ⟨x0, x1, x2⟩ | with_reducible exact ⟨y0, y1, y2⟩ | with_reducible exact ⟨z0, z1, z2⟩ | with_reducible exact ⟨u0, u1, u2⟩)
    (first
    | (go_at_call 49; refine (clone_any _ _ _ _ ([] : List Int) HA.out (by omega)).mono ?_; rintro q w1 ⟨a1, c1, rfl, o1, g1⟩; rw [show ([] : List Int).length = 0 from rfl] at o1 ⊢; have y0 := g1.cell x0 (by simp); have y1 := g1.cell x1 (by simp); have y2 := g1.cell x2 (by simp))
    | (go_at_call 89; refine (copyPeeled0 _).mono ?_; rintro q w2 ⟨g, rfl, o2, g2⟩; have c2 : Nat := 1; have z0 := g2.cell y0 (by simp); have z1 := g2.cell y1 (by simp); have z2 := g2.cell y2 (by simp); have R2 := Lib.hid (blkK g2 (blkK g1 RD.out (by simp)) (by simp)); have d0 := blkC R2.out 0 rfl; have d1 := blkC R2.out 1 rfl; have d2 := blkC R2.out 2 rfl; have f0 := blkF R2.out 0; have f1 := blkF R2.out 1; have f2 := blkF R2.out 2; have gs := (grown_trans (grown_trans (grown_set w2 (w.heap.size + 1) 0 (.int .i64 s)) (grown_set _ (w.heap.size + 1) 1 (.slice a1 0 c1))) (grown_set _ (w.heap.size + 1) 2 (.slice (some ⟨g, 0, none⟩) 0 1))); have u0 := gs.cell z0 nx; have u1 := gs.cell z1 nx; have u2 := gs.cell z2 nx))
  all_goals
    have GZ := Lib.hid (grown_new (grown_trans (gDrew G0.out) (grown_trans g1 g2)) gs (by omega))
    have W1 := Lib.hid (show ((w.alloc (.cells #[.int .i64 s, .slice none 0 0, .slice none 0 0] 47)).alloc mx0).heap.size ≤ w1.heap.size from g1.size)
    have XZ := Lib.hid (OwnI.row (OwnI.grown o1 g2) gs (fun k e => by simp at e; have := (show ((w.alloc (.cells #[.int .i64 s, .slice none 0 0, .slice none 0 0] 47)).alloc mx0).drew.heap.size = w.heap.size + 2 from WZ.out); omega))
    have YZ := Lib.hid (own6_row o2 gs (fun k e => by simp at e; have := WZ.out; have := W1.out; omega))
    have R3 := Lib.hid (box3 R2.out (.int .i64 s) (.slice a1 0 c1) (.slice (some ⟨g, 0, none⟩) 0 1))
    clear gs g1 g2 o1 o2 x0 x1 x2 y0 y1 y2 z0 z1 z2 u0 u1 u2 d0 d1 d2 f0 f1 f2
    have e0 := blkC R3.out 0 rfl
    have e1 := blkC R3.out 1 rfl
    have e2 := blkC R3.out 2 rfl
    go_wp2_with fail
    refine bodyPost_ret (v := .agg #[.int .i64 s, .slice a1 0 c1, .slice (some ⟨g, 0, none⟩) 0 1]) ?_ rfl ⟨a1, c1, g, rfl, Own.lower XZ.out G0.out.size, own6_lower YZ.out (by have := WZ.out; have := W1.out; omega), GZ.out⟩
    (simp only [results, Try.results61]; go_simp)
set_option maxRecDepth 4000 in
set_option maxHeartbeats 2000000 in
theorem copyMix1 (s k p0 p1 e t : Int) (w : World) (sa : Option Addr) (sc pb pc : Nat) (ha : Option Addr) (hc : Nat) (ba : Option Addr) (bc : Nat) (H B : List Int) (hS : IntsAt w sa 1 sc [k]) (hP : PoolAt w pb p0 p1 e ha hc t ba bc) (h : IntsAt w ha 9 hc H) (h' : IntsAt w ba 6 bc B) :
    Calls Try.prog 61 #[.agg #[.int .i64 s, .slice sa 1 sc, .slice (some ⟨pb, 0, none⟩) 1 pc]] w fun e w' => ∃ a c g d, e = .returned (.agg #[.int .i64 s, .slice a 1 c, .slice (some ⟨g, 0, none⟩) 1 d]) ∧ w.grownBy w' none := by
  have G0 := Lib.hid (show w.grownBy ((w.alloc (.cells #[.int .i64 s, .slice sa 1 sc, .slice (some ⟨pb, 0, none⟩) 1 pc] 47)).alloc mx0) none from gAlloc (grown_alloc w _ none) _)
  have D0 := Lib.hid (show ((w.alloc (.cells #[.int .i64 s, .slice sa 1 sc, .slice (some ⟨pb, 0, none⟩) 1 pc] 47)).alloc mx0).heap[w.heap.size]? = some (.cells #[.int .i64 s, .slice sa 1 sc, .slice (some ⟨pb, 0, none⟩) 1 pc] 47) from blkA (heap_alloc_new w _))
  have R0 := Lib.hid (show ((w.alloc (.cells #[.int .i64 s, .slice sa 1 sc, .slice (some ⟨pb, 0, none⟩) 1 pc] 47)).alloc mx0).heap[w.heap.size + 1]? = some mx0 from heap_next (by simp))
  have RD := Lib.hid (show ((w.alloc (.cells #[.int .i64 s, .slice sa 1 sc, .slice (some ⟨pb, 0, none⟩) 1 pc] 47)).alloc mx0).drew.heap[w.heap.size + 1]? = some mx0 from R0.out)
  have WZ := Lib.hid (show ((w.alloc (.cells #[.int .i64 s, .slice sa 1 sc, .slice (some ⟨pb, 0, none⟩) 1 pc] 47)).alloc mx0).heap.size = w.heap.size + 2 by simp)
  have HA := Lib.hid (show IntsAt ((w.alloc (.cells #[.int .i64 s, .slice sa 1 sc, .slice (some ⟨pb, 0, none⟩) 1 pc] 47)).alloc mx0).drew sa 1 sc [k] from hS.grown (gDrew G0.out))
  have PO := Lib.hid hP
  have HH := Lib.hid h
  have HB := Lib.hid h'
  clear hS hP h h'
  have x0 := cell_dr (blkC D0.out 0 rfl)
  have x1 := cell_dr (blkC D0.out 1 rfl)
  have x2 := cell_dr (blkC D0.out 2 rfl)
  have nx : some w.heap.size ≠ some (w.heap.size + 1) := by simp
  go_enter Try.func61, Try.ntmps61
  go_wp2_with fail
  go_region_held3 (fun w' => w'.cell? ⟨w.heap.size, 0, none⟩ = some (.int .i64 s) ∧ w'.cell? ⟨w.heap.size, 1, none⟩ = some (.slice sa 1 sc) ∧ w'.cell? ⟨w.heap.size, 2, none⟩ = some (.slice (some ⟨pb, 0, none⟩) 1 pc)) (first | go_keep | with_reducible exact ⟨x0, x1, x2⟩ | with_reducible exact ⟨y0, y1, y2⟩ | with_reducible exact ⟨z0, z1, z2⟩ | with_reducible exact ⟨u0, u1, u2⟩)
    (first
    | (go_at_call 49; refine (clone_any _ _ _ _ [k] HA.out (by omega)).mono ?_; rintro q w1 ⟨a1, c1, rfl, o1, g1⟩; rw [show [k].length = 1 from rfl] at o1 ⊢; have G1 := Lib.hid (grown_trans (gDrew G0.out) g1); have PO1 := Lib.hid (PO.out.grown G1.out); have HH1 := Lib.hid (HH.out.grown G1.out); have HB1 := Lib.hid (HB.out.grown G1.out); have y0 := g1.cell x0 (by simp); have y1 := g1.cell x1 (by simp); have y2 := g1.cell x2 (by simp))
    | (go_at_call 89; refine (copyPeeled1 p0 p1 e t _ pb pc ha hc ba bc H B PO1.out HH1.out HB1.out).mono ?_; rintro q w2 ⟨g, c2, rfl, g2⟩; have z0 := g2.cell y0 (by simp); have z1 := g2.cell y1 (by simp); have z2 := g2.cell y2 (by simp); have R2 := Lib.hid (blkK g2 (blkK g1 RD.out (by simp)) (by simp)); have d0 := blkC R2.out 0 rfl; have d1 := blkC R2.out 1 rfl; have d2 := blkC R2.out 2 rfl; have f0 := blkF R2.out 0; have f1 := blkF R2.out 1; have f2 := blkF R2.out 2; have gs := (grown_trans (grown_trans (grown_set w2 (w.heap.size + 1) 0 (.int .i64 s)) (grown_set _ (w.heap.size + 1) 1 (.slice a1 1 c1))) (grown_set _ (w.heap.size + 1) 2 (.slice (some ⟨g, 0, none⟩) 1 c2))); have u0 := gs.cell z0 nx; have u1 := gs.cell z1 nx; have u2 := gs.cell z2 nx))
  all_goals
    have GZ := Lib.hid (grown_new (grown_trans (gDrew G0.out) (grown_trans g1 g2)) gs (by omega))
    have R3 := Lib.hid (box3 R2.out (.int .i64 s) (.slice a1 1 c1) (.slice (some ⟨g, 0, none⟩) 1 c2))
    clear gs g1 g2 o1 x0 x1 x2 y0 y1 y2 z0 z1 z2 u0 u1 u2 d0 d1 d2 f0 f1 f2
    have e0 := blkC R3.out 0 rfl
    have e1 := blkC R3.out 1 rfl
    have e2 := blkC R3.out 2 rfl
    go_wp2_with fail
    refine bodyPost_ret (v := .agg #[.int .i64 s, .slice a1 1 c1, .slice (some ⟨g, 0, none⟩) 1 c2]) ?_ rfl ⟨a1, c1, g, c2, rfl, GZ.out⟩
    (simp only [results, Try.results61]; go_simp)
end Go.Proofs.Ytedpkhboepahgaa
