/- Mixes: what they hold, copied and checked. -/
import Derived.Test.YtedpkhboepahgaaPeel
import Derived.Test.YtedpkhboepahgaaWayP
import Derived.WalkKit
import Derived.Lib.Hide
import Derived.Deep.QuietTactic
import Derived.BigQuiet
import Derived.OwnWalk
import Derived.Deep.AppendLies
import Derived.Deep.RegionHeld3
namespace Go.Proofs.Ytedpkhboepahgaa
open Go.RowKit
theorem info_peel : (Try.prog.info? 39).map (fun i => (i.zero, i.size, i.bytes)) = some (some (.agg #[.int .i64 0, .int .i64 0, .int .i64 0, .slice none 0 0, .int .i64 0, .slice none 0 0]), 6, 80) := by kernel_rfl
set_option maxRecDepth 4000 in
set_option maxHeartbeats 1000000 in
theorem copyPacket_any (e t : Int) (w : World) (ha : Option Addr) (hc : Nat) (ba : Option Addr) (bc : Nat) (H B : List Int) (h : IntsAt w ha 9 hc H) (h' : IntsAt w ba 6 bc B) :
    Calls Try.prog 97 #[.agg #[.int .i64 e, .slice ha 9 hc, .int .i64 t, .slice ba 6 bc]] w fun q w' => ∃ xa xc ya yc, q = .returned (.agg #[.int .i64 e, .slice xa 9 xc, .int .i64 t, .slice ya 6 yc]) ∧ w.grownBy w' none := by
  have G0 := Lib.hid (show w.grownBy ((w.alloc (.cells #[.int .i64 e, .slice ha 9 hc, .int .i64 t, .slice ba 6 bc] 35)).alloc pk0) none from gAlloc (grown_alloc w _ none) _)
  have D0 := Lib.hid (show ((w.alloc (.cells #[.int .i64 e, .slice ha 9 hc, .int .i64 t, .slice ba 6 bc] 35)).alloc pk0).heap[w.heap.size]? = some (.cells #[.int .i64 e, .slice ha 9 hc, .int .i64 t, .slice ba 6 bc] 35) from blkA (heap_alloc_new w _))
  have R0 := Lib.hid (show ((w.alloc (.cells #[.int .i64 e, .slice ha 9 hc, .int .i64 t, .slice ba 6 bc] 35)).alloc pk0).heap[w.heap.size + 1]? = some pk0 from heap_next (by simp))
  have WZ := Lib.hid (show ((w.alloc (.cells #[.int .i64 e, .slice ha 9 hc, .int .i64 t, .slice ba 6 bc] 35)).alloc pk0).heap.size = w.heap.size + 2 by simp)
  have HA := Lib.hid (show IntsAt ((w.alloc (.cells #[.int .i64 e, .slice ha 9 hc, .int .i64 t, .slice ba 6 bc] 35)).alloc pk0).drew ha 9 hc H from h.grown (gDrew G0.out))
  have HB := Lib.hid (show IntsAt ((w.alloc (.cells #[.int .i64 e, .slice ha 9 hc, .int .i64 t, .slice ba 6 bc] 35)).alloc pk0).drew ba 6 bc B from h'.grown (gDrew G0.out))
  have LH := Lib.hid h.len
  have LB := Lib.hid h'.len
  have RD := Lib.hid (show ((w.alloc (.cells #[.int .i64 e, .slice ha 9 hc, .int .i64 t, .slice ba 6 bc] 35)).alloc pk0).drew.heap[w.heap.size + 1]? = some pk0 from R0.out)
  have x0 := cell_dr (blkC D0.out 0 rfl)
  have x1 := cell_dr (blkC D0.out 1 rfl)
  have x2 := cell_dr (blkC D0.out 2 rfl)
  have x3 := cell_dr (blkC D0.out 3 rfl)
  have nx : some w.heap.size ≠ some (w.heap.size + 1) := by simp
  clear h h'
  go_enter Try.func97, Try.ntmps97
  go_wp2_with fail
  go_region_held3 (fun w' => w'.cell? ⟨w.heap.size, 0, none⟩ = some (.int .i64 e) ∧ w'.cell? ⟨w.heap.size, 1, none⟩ = some (.slice ha 9 hc) ∧ w'.cell? ⟨w.heap.size, 2, none⟩ = some (.int .i64 t) ∧ w'.cell? ⟨w.heap.size, 3, none⟩ = some (.slice ba 6 bc)) (first | go_keep | with_reducible exact ⟨x0, x1, x2, x3⟩ | with_reducible exact ⟨y0, y1, y2, y3⟩ | with_reducible exact ⟨z0, z1, z2, z3⟩ | with_reducible exact ⟨u0, u1, u2, u3⟩)
    (first
    | (go_at_call 49; refine (clone_any _ _ _ _ H HA.out (by omega)).mono ?_; rintro q w1 ⟨a1, c1, rfl, o1, g1⟩; rw [LH.out] at o1 ⊢; have y0 := g1.cell x0 (by simp); have y1 := g1.cell x1 (by simp); have y2 := g1.cell x2 (by simp); have y3 := g1.cell x3 (by simp); have HB1 := Lib.hid (HB.out.grown g1))
    | (go_at_call 49; refine (clone_any _ _ _ _ B HB1.out (by omega)).mono ?_; rintro q w2 ⟨a2, c2, rfl, o2, g2⟩; rw [LB.out] at o2 ⊢; have z0 := g2.cell y0 (by simp); have z1 := g2.cell y1 (by simp); have z2 := g2.cell y2 (by simp); have z3 := g2.cell y3 (by simp); have R2 := Lib.hid (blkK g2 (blkK g1 RD.out (by simp)) (by simp)); have d0 := blkC R2.out 0 rfl; have d1 := blkC R2.out 1 rfl; have d2 := blkC R2.out 2 rfl; have d3 := blkC R2.out 3 rfl; have f0 := blkF R2.out 0; have f1 := blkF R2.out 1; have f2 := blkF R2.out 2; have f3 := blkF R2.out 3; have gs := (grown_trans (grown_trans (grown_trans (grown_set w2 (w.heap.size + 1) 0 (.int .i64 e)) (grown_set _ (w.heap.size + 1) 1 (.slice a1 9 c1))) (grown_set _ (w.heap.size + 1) 2 (.int .i64 t))) (grown_set _ (w.heap.size + 1) 3 (.slice a2 6 c2))); have u0 := gs.cell z0 nx; have u1 := gs.cell z1 nx; have u2 := gs.cell z2 nx; have u3 := gs.cell z3 nx))
  all_goals
    have GZ := Lib.hid (grown_new (grown_trans (gDrew G0.out) (grown_trans g1 g2)) gs (by omega))
    clear gs g1 g2 o1 o2 x0 x1 x2 x3 y0 y1 y2 y3 z0 z1 z2 z3 u0 u1 u2 u3 d0 d1 d2 d3 f0 f1 f2 f3
    have R3 := Lib.hid (box4 R2.out (.int .i64 e) (.slice a1 9 c1) (.int .i64 t) (.slice a2 6 c2))
    have c0 := blkC R3.out 0 rfl
    have c1' := blkC R3.out 1 rfl
    have c2' := blkC R3.out 2 rfl
    have c3 := blkC R3.out 3 rfl
    go_wp2_with fail
    refine bodyPost_ret (v := .agg #[.int .i64 e, .slice a1 9 c1, .int .i64 t, .slice a2 6 c2]) ?_ rfl ⟨a1, c1, a2, c2, rfl, GZ.out⟩
    (simp only [results, Try.results97]; go_simp)
/-- make([]Peeled, 0, 1), nothing copied -/
theorem copyPeeled0 (w : World) : Calls Try.prog 89 #[.slice none 0 0] w fun e w' => ∃ g, e = .returned (.slice (some ⟨g, 0, none⟩) 0 1) ∧ w'.ownsRow w.heap.size 39 6 (.slice (some ⟨g, 0, none⟩) 0 1) 0 [] ∧ w.grownBy w' none := by
  obtain ⟨i0, hi, hz0, hz1, hz2⟩ := info_parts info_peel
  go_enter Try.func89, Try.ntmps89
  go_wp2_with (at_make; refine wpList_make_own w rfl _ _ 45 rfl w.heap.size 39 i0 _ 6 Try.underlying45 hi hz0 hz1 .i64 .i64 1 1 rfl rfl rfl (by rw [hz2]; omega) (by unfold maxLen; omega) (Nat.le_refl _) ?_; intro w1 o1 g1; refine Hid.out ?_)
  show wpList _ _ _ _ _ _
  have O1 := Lib.hid o1
  have G1 := Lib.hid g1
  clear o1 g1
  go_wp2
  go_loopw [3, 5, 12] (fun u v q wr => q = .int .i64 0 ∧ u = .slice (some ⟨w.heap.size, 0, none⟩) 0 1 ∧ wr = w1) (fun _ _ _ _ => 0)
  case atStart => exact ⟨rfl, rfl, rfl⟩
  case round =>
    obtain ⟨rfl, rfl, rfl⟩ := hrel
    go_wp2
    go_ret
    exact ⟨_, rfl, O1.out, G1.out⟩
/-- an empty list holds nothing -/
theorem index0 (w : World) (ao : Option Addr) (cap : Nat) (z : Int) : Calls Try.prog 90 #[.slice ao 0 cap, .int .i64 z] w fun e w' => e = .returned (.int .i64 (-1)) ∧ w = w' := by
  go_enter Try.func90, Try.ntmps90
  go_wp2
  go_loop [5, 8] (fun u i => i = .int .i64 0) (fun _ _ => 0)
  case atStart => rfl
  case round =>
    obtain rfl := hrel
    go_wp2
    go_ret
    exact ⟨rfl, rfl⟩
theorem contains0 (w : World) (ao : Option Addr) (cap : Nat) (z : Int) : Calls Try.prog 62 #[.slice ao 0 cap, .int .i64 z] w fun e w' => e = .returned (.bool false) ∧ w = w' := by
  go_enter Try.func62, Try.ntmps62
  go_wp2_with (go_at_call 90; refine (index0 _ _ _ _).mono ?_; rintro e w' ⟨rfl, rfl⟩)
  go_ret
  exact ⟨rfl, rfl⟩
theorem index1 (w : World) (ao : Option Addr) (cap : Nat) (z : Int) (h : IntsAt w ao 1 cap [z]) : Calls Try.prog 90 #[.slice ao 1 cap, .int .i64 z] w fun e w' => e = .returned (.int .i64 0) ∧ w = w' := by
  obtain ⟨b, off, rfl, -, hc⟩ := IntsAt.addr h (by omega)
  have c0 : w.cell? ⟨b, off, none⟩ = some (.int .i64 z) := hc 0 (by omega)
  have zz : (z == z) = true := by simp
  clear h hc
  go_enter Try.func90, Try.ntmps90
  go_wp2
  go_loop [5, 8] (fun u i => i = .int .i64 0) (fun _ _ => 0)
  case atStart => rfl
  case round =>
    obtain rfl := hrel
    go_wp2
    go_ret
    exact ⟨rfl, rfl⟩
theorem contains1 (w : World) (ao : Option Addr) (cap : Nat) (z : Int) (h : IntsAt w ao 1 cap [z]) : Calls Try.prog 62 #[.slice ao 1 cap, .int .i64 z] w fun e w' => e = .returned (.bool true) ∧ w = w' := by
  go_enter Try.func62, Try.ntmps62
  go_wp2_with (go_at_call 90; refine (index1 _ _ _ _ h).mono ?_; rintro e w' ⟨rfl, rfl⟩)
  go_ret
  exact ⟨rfl, rfl⟩
abbrev mx0 : Obj := .cells #[.int .i64 0, .slice none 0 0, .slice none 0 0] 47
theorem mixNew_any (s : Int) (w : World) (hs : 1 ≤ s ∧ s ≤ 996) : Calls Try.prog 20 #[.int .i64 s] w fun e w' => e = .returned (.tuple #[.agg #[.int .i64 s, .slice none 0 0, .slice none 0 0], .bool true]) ∧ w.grownBy w' none := by
  have E := Lib.hid (elB_iff.2 hs)
  have D := Lib.hid (show (w.alloc mx0).heap[w.heap.size]? = some mx0 from heap_alloc_new w _)
  have d0 := blkC D.out 0 rfl
  have d1 := blkC D.out 1 rfl
  have d2 := blkC D.out 2 rfl
  have f0 := blkF D.out 0
  have f1 := blkF D.out 1
  have f2 := blkF D.out 2
  have GZ := Lib.hid (grown_alloc w (.cells #[.int .i64 s, .slice none 0 0, .slice none 0 0] 47) none)
  go_enter Try.func20, Try.ntmps20
  go_wp2_with (go_at_call 51; refine (isElement_any _ _).mono ?_; rintro e w' ⟨rfl, rfl⟩; rw [E.out])
  refine bodyPost_ret (v := .tuple #[.agg #[.int .i64 s, .slice none 0 0, .slice none 0 0], .bool true]) ?_ rfl ⟨rfl, GZ.out⟩
  (simp only [results, Try.results20]; go_simp)
/-- a packet that waits -/
theorem peeledValid_any (p0 p1 e t : Int) (w : World) (ha : Option Addr) (hc : Nat) (ba : Option Addr) (bc : Nat) (H B : List Int) (h : IntsAt w ha 9 hc H) (h' : IntsAt w ba 6 bc B) (h0 : 0 ≤ p0 ∧ p0 ≤ 1) (h1 : 0 ≤ p1 ∧ p1 ≤ 7) (hV : vB e H t B = true) :
    Calls Try.prog 88 #[.agg #[.int .i64 p0, .int .i64 p1, .int .i64 e, .slice ha 9 hc, .int .i64 t, .slice ba 6 bc]] w fun q w' => q = .returned (.bool true) ∧ w.grownBy w' none := by
  have G := Lib.hid (grown_alloc w (.cells #[.int .i64 p0, .int .i64 p1, .int .i64 e, .slice ha 9 hc, .int .i64 t, .slice ba 6 bc] 39) none)
  have I := Lib.hid (h.grown G.out)
  have J := Lib.hid (h'.grown G.out)
  have D := Lib.hid (heap_alloc_new w (.cells #[.int .i64 p0, .int .i64 p1, .int .i64 e, .slice ha 9 hc, .int .i64 t, .slice ba 6 bc] 39))
  have d0 := blkC D.out 0 rfl
  have d1 := blkC D.out 1 rfl
  have d2 := blkC D.out 2 rfl
  have d3 := blkC D.out 3 rfl
  have d4 := blkC D.out 4 rfl
  have d5 := blkC D.out 5 rfl
  have I0 := Lib.hid (inB_true h0.1 h0.2)
  have I1 := Lib.hid (nmB_iff.2 h1)
  have V := Lib.hid hV
  clear h h' hV
  go_enter Try.func88, Try.ntmps88
  go_wp2_with (first | (go_at_call 55; refine (within_any _ _ _ _).mono ?_; rintro q w' ⟨rfl, rfl⟩; rw [I0.out]) | (go_at_call 50; refine (isName_any _ _).mono ?_; rintro q w' ⟨rfl, rfl⟩; rw [I1.out]))
  refine (packetValid_any e t _ ha 9 hc ba 6 bc H B I.out J.out).mono ?_
  rintro q w2 ⟨rfl, g2⟩
  rw [V.out]
  have GG := Lib.hid (grown_trans G.out g2)
  clear g2
  go_wp2_with fail
  go_ret
  exact ⟨rfl, GG.out⟩
set_option maxRecDepth 4000 in
theorem mixValid0 (s : Int) (w : World) (hs : 1 ≤ s ∧ s ≤ 996) : Calls Try.prog 60 #[.agg #[.int .i64 s, .slice none 0 0, .slice none 0 0]] w fun e w' => e = .returned (.bool true) ∧ w.grownBy w' none := by
  have E := Lib.hid (elB_iff.2 hs)
  have G := Lib.hid (grown_alloc w (.cells #[.int .i64 s, .slice none 0 0, .slice none 0 0] 47) none)
  have D := Lib.hid (heap_alloc_new w (.cells #[.int .i64 s, .slice none 0 0, .slice none 0 0] 47))
  have d0 := blkC D.out 0 rfl
  have d1 := blkC D.out 1 rfl
  have d2 := blkC D.out 2 rfl
  go_enter Try.func60, Try.ntmps60
  go_wp2_with (first | (go_at_call 51; refine (isElement_any _ _).mono ?_; rintro e w' ⟨rfl, rfl⟩; rw [E.out]))
  go_loopw [3, 4, 26] (fun u v q wr => q = .int .i64 0 ∧ wr = w.alloc (.cells #[.int .i64 s, .slice none 0 0, .slice none 0 0] 47)) (fun _ _ _ _ => 0)
  case atStart => exact ⟨rfl, rfl⟩
  case round =>
    obtain ⟨rfl, rfl⟩ := hrel
    go_wp2
    go_loopw [6, 46] (fun u q wr => q = .int .i64 0 ∧ wr = w.alloc (.cells #[.int .i64 s, .slice none 0 0, .slice none 0 0] 47)) (fun _ _ _ => 0)
    case atStart => exact ⟨rfl, rfl⟩
    case round =>
      obtain ⟨rfl, rfl⟩ := hrel
      go_wp2
      go_ret
      exact ⟨rfl, G.out⟩
end Go.Proofs.Ytedpkhboepahgaa
