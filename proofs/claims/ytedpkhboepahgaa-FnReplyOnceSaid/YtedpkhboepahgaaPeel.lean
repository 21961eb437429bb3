/- Packets of the program: PacketPeel, where it succeeds. -/
import Derived.Test.YtedpkhboepahgaaVal
import Derived.Test.YtedpkhboepahgaaAppZ
import Derived.Test.YtedpkhboepahgaaTag
import Derived.Test.YtedpkhboepahgaaNames
import Derived.Test.YtedpkhboepahgaaHdrP
import Derived.Test.YtedpkhboepahgaaRfS
import Derived.WalkKit
import Derived.Lib.Hide
import Derived.Deep.QuietTactic
import Derived.BigQuiet
import Derived.OwnWalk
import Derived.Deep.RegionHeld3
namespace Go.Proofs.Ytedpkhboepahgaa
open Go.RowKit
abbrev pl0 : Obj := .cells #[.int .i64 0, .int .i64 0, .int .i64 0, .slice none 0 0, .int .i64 0, .slice none 0 0] 39
def PeelPost (w : World) (P : List Int) (E : Int) (B : List Int) (e : Ending) (w' : World) : Prop :=
  ∃ xa xc ya yc, e = .returned (.tuple #[.agg #[.int .i64 (P.getD 0 0), .int .i64 (P.getD 1 0), .int .i64 E, .slice xa 9 xc, .int .i64 (P.getD 2 0), .slice ya 6 yc], .bool true]) ∧
    OwnI w.heap.size w' (.slice xa 9 xc) (P.drop 3) ∧ OwnI w.heap.size w' (.slice ya 6 yc) B ∧ w.grownBy w' none
theorem own_form' {B : Nat} {w : World} {ao : Option Addr} {n c : Nat} {xs : List Int} (h : OwnI B w (.slice ao n c) xs) : (ao = none ∧ n = 0 ∧ c = 0) ∨ ∃ g, ao = some ⟨g, 0, none⟩ := by
  rcases h.2 with ⟨e, hn⟩ | ⟨g, cap, cur, e, hb, hg, hnc, hcm, hcs, htake⟩
  · simp at e; exact .inl e
  · simp at e; exact .inr ⟨g, e.1⟩
set_option maxRecDepth 8000 in
set_option maxHeartbeats 2000000 in
theorem packetPeel_any (s e t : Int) (w : World) (ha : Option Addr) (hc : Nat) (ba : Option Addr) (bc : Nat) (H B P : List Int) (h : IntsAt w ha 9 hc H) (h' : IntsAt w ba 6 bc B) (hs : 1 ≤ s ∧ s ≤ 996) (hV : vB e H t B = true) (hT : t = tagL (prodZ s e) H) (hP : offL (H ++ [0, 0, 0]) (prodZ s e) = P) (h0 : 0 ≤ P.getD 0 0 ∧ P.getD 0 0 ≤ 1) (h1 : 0 ≤ P.getD 1 0 ∧ P.getD 1 0 ≤ 7) :
    Calls Try.prog 18 #[.int .i64 s, .agg #[.int .i64 e, .slice ha 9 hc, .int .i64 t, .slice ba 6 bc]] w (PeelPost w P (prodZ e (factZ (prodZ s e))) (offL B (prodZ s e))) := by
  have VV := Lib.hid (vB_iff.1 hV)
  have KR := Lib.hid (prod_el hs VV.out.1)
  obtain ⟨k, hk⟩ : ∃ k, prodZ s e = k := ⟨_, rfl⟩
  have HK := Lib.hid hk
  rw [hk] at hT hP KR ⊢
  obtain ⟨E, hE⟩ : ∃ E, prodZ e (factZ k) = E := ⟨_, rfl⟩
  have HE := Lib.hid hE
  rw [hE]
  have V1 := Lib.hid hV
  have ES := Lib.hid (elB_iff.2 hs)
  have TG := Lib.hid (show (t == tagL k H) = true by simp [hT])
  have LH := Lib.hid VV.out.2.1.1
  have LB := Lib.hid VV.out.2.2.1.1
  have T0 := Lib.hid VV.out.2.2.2.1
  have LX := Lib.hid (show ListP (H ++ [0, 0, 0]) from list_app LH.out (list_mem.2 ⟨by simp, fun x hx => by simp at hx; omega⟩) (by have := VV.out.2.1.2; simp; omega))
  have LP := Lib.hid (show P.length = 12 by rw [← hP, offL_len]; have := VV.out.2.1.2; simp; omega)
  have LD := Lib.hid (show (P.drop 3).length = 9 by have := LP.out; simp; omega)
  have LO := Lib.hid (show (offL B k).length = 6 by rw [offL_len]; exact VV.out.2.2.1.2)
  have EP := Lib.hid hP
  have L12 := Lib.hid (show (H ++ [0, 0, 0]).length = 12 by have := VV.out.2.1.2; simp; omega)
  have L9 := Lib.hid VV.out.2.1.2
  obtain ⟨p0, hp0⟩ : ∃ x, P.getD 0 0 = x := ⟨_, rfl⟩
  obtain ⟨p1, hp1⟩ : ∃ x, P.getD 1 0 = x := ⟨_, rfl⟩
  obtain ⟨p2, hp2⟩ : ∃ x, P.getD 2 0 = x := ⟨_, rfl⟩
  rw [hp0] at h0
  rw [hp1] at h1
  have I0 := Lib.hid (inB_true h0.1 h0.2)
  have I1 := Lib.hid (nmB_iff.2 h1)
  have Hp0 := Lib.hid hp0
  have Hp1 := Lib.hid hp1
  have Hp2 := Lib.hid hp2
  have G0 := Lib.hid (show w.grownBy ((w.alloc (.cells #[.int .i64 e, .slice ha 9 hc, .int .i64 t, .slice ba 6 bc] 35)).alloc pl0) none from gAlloc (grown_alloc w _ none) _)
  have D0 := Lib.hid (show ((w.alloc (.cells #[.int .i64 e, .slice ha 9 hc, .int .i64 t, .slice ba 6 bc] 35)).alloc pl0).heap[w.heap.size]? = some (.cells #[.int .i64 e, .slice ha 9 hc, .int .i64 t, .slice ba 6 bc] 35) from blkA (heap_alloc_new w _))
  have R0 := Lib.hid (show ((w.alloc (.cells #[.int .i64 e, .slice ha 9 hc, .int .i64 t, .slice ba 6 bc] 35)).alloc pl0).heap[w.heap.size + 1]? = some pl0 from heap_next (by simp))
  have WZ := Lib.hid (show ((w.alloc (.cells #[.int .i64 e, .slice ha 9 hc, .int .i64 t, .slice ba 6 bc] 35)).alloc pl0).heap.size = w.heap.size + 2 by simp)
  have H0 := Lib.hid (h.grown G0.out)
  have B0 := Lib.hid (h'.grown G0.out)
  have x0 := blkC D0.out 0 rfl
  have x1 := blkC D0.out 1 rfl
  have x2 := blkC D0.out 2 rfl
  have x3 := blkC D0.out 3 rfl
  clear h h' hk hE hT hP hV hp0 hp1 hp2 h0 h1
  go_enter Try.func18, Try.ntmps18
  go_wp2_with (first | (go_at_call 51; refine (isElement_any _ _).mono ?_; rintro q w' ⟨rfl, rfl⟩; rw [ES.out]))
  refine (packetValid_any e t _ ha 9 hc ba 6 bc H B H0.out B0.out).mono ?_
  rintro q w1 ⟨rfl, g1⟩
  rw [V1.out]
  have G1 := Lib.hid (grown_trans G0.out g1)
  have W1 := Lib.hid (show w.heap.size + 2 ≤ w1.heap.size by rw [← WZ.out]; exact g1.size)
  have D1 := Lib.hid (blkK g1 D0.out (by simp))
  have R1 := Lib.hid (blkK g1 R0.out (by simp))
  have H1 := Lib.hid (H0.out.grown g1)
  have B1 := Lib.hid (B0.out.grown g1)
  clear g1 x0 x1 x2 x3 H0 B0 D0 R0
  have x0 := blkC D1.out 0 rfl
  have x1 := blkC D1.out 1 rfl
  have x2 := blkC D1.out 2 rfl
  have x3 := blkC D1.out 3 rfl
  go_wp2_with (first | (go_at_call 52; refine (sharedOf_any _ _ _).mono ?_; rintro q w' ⟨rfl, rfl⟩; rw [HK.out]))
  refine (clone_any _ _ _ _ H H1.out (by omega)).mono ?_
  rintro q w2 ⟨a2, c2, rfl, o2, g2⟩
  rw [L9.out] at o2 ⊢
  have O2 := Lib.hid o2
  have G2 := Lib.hid g2
  clear o2 g2
  go_wp2_with (at_builtin; refine app_zeros rfl (.tmp 24) (.const (.int .i64 3)) 3 rfl O2.out rfl rfl (by omega) (by omega) G2.out.size (by rw [L9.out]; omega) ?_; intro v3 w3 o3 g3; refine Hid.out ?_)
  show wpList _ _ _ _ _ _
  have G3 := Lib.hid (grown_own G2.out O2.out g3 (Nat.le_refl _))
  have O3 := Lib.hid (own_eq o3 (show H ++ [0, 0, 0] = H ++ List.replicate 3 0 from rfl))
  clear o3 g3 x0 x1 x2 x3 O2 G2
  obtain ⟨a3, c3, rfl, -, -⟩ := OwnI.shape O3.out
  rw [L12.out] at O3 ⊢
  go_wp2_with fail
  refine (maskOff_any _ _ _ _ (H ++ [0, 0, 0]) k (OwnI.ints O3.out).1 LX.out KR.out).mono ?_
  rintro q w4 ⟨a4, c4, rfl, o4, g4⟩
  rw [EP.out] at o4 ⊢
  rw [LP.out] at o4 ⊢
  obtain ⟨g, ha4⟩ : ∃ g, a4 = some ⟨g, 0, none⟩ := by
    rcases own_form' o4 with ⟨-, e1, -⟩ | ⟨g, e1⟩
    · omega
    · exact ⟨g, e1⟩
  subst ha4
  have G4 := Lib.hid (grown_trans G3.out g4)
  have GW := Lib.hid (grown_trans G1.out G4.out)
  have W4 := Lib.hid (show w.heap.size + 2 ≤ w4.heap.size from Nat.le_trans W1.out G4.out.size)
  have D4 := Lib.hid (blkK G4.out D1.out (by simp))
  have R4 := Lib.hid (blkK G4.out R1.out (by simp))
  have H4 := Lib.hid (H1.out.grown G4.out)
  have B4 := Lib.hid (B1.out.grown G4.out)
  have GB := Lib.hid (show g < w4.heap.size from ((OwnI.ints o4).2.2 _ rfl).2)
  have GL := Lib.hid (show w.heap.size + 2 ≤ g by have := ((OwnI.ints o4).2.2 _ rfl).1; have := G3.out.size; have := W1.out; simp at *; omega)
  have c12 : 12 ≤ c4 := RowAt.le (OwnI.ints o4).1
  have q0 := (ints_at1 o4 0 (by have := LP.out; omega)).1
  have q1 := (ints_at1 o4 1 (by have := LP.out; omega)).1
  have q2 := (ints_at1 o4 2 (by have := LP.out; omega)).1
  rw [Hp0.out] at q0
  rw [Hp1.out] at q1
  rw [Hp2.out] at q2
  have C4 := Lib.hid (IntsAt.post (OwnI.ints o4).1 3 (by omega) (by omega))
  clear g4 o4 O3 G3 H1 B1 D1 R1
  have x0 := blkC D4.out 0 rfl
  have x1 := blkC D4.out 1 rfl
  have x2 := blkC D4.out 2 rfl
  have x3 := blkC D4.out 3 rfl
  go_wp2_with (first | (go_at_call 54; refine (tagCheck_any k _ _ _ _ H t KR.out H4.out LH.out T0.out).mono ?_; rintro q w' ⟨rfl, rfl⟩; rw [TG.out]) | (go_at_call 55; refine (within_any _ _ _ _).mono ?_; rintro q w' ⟨rfl, rfl⟩; rw [I0.out]) | (go_at_call 50; refine (isName_any _ _).mono ?_; rintro q w' ⟨rfl, rfl⟩; rw [I1.out]))
  have CX := Lib.hid (show IntsAt w4.drew (some ⟨g, 3, none⟩) 9 (c4 - 3) (P.drop 3) from (show IntsAt w4 (some ⟨g, 0 + 3, none⟩) (12 - 3) (c4 - 3) (P.drop 3) from C4.out).grown (gDrew (grown_refl _ none)))
  have CZ := Lib.hid (show IntsAt (w4.alloc pk0).drew (some ⟨g, 3, none⟩) 9 (c4 - 3) (P.drop 3) from (show IntsAt w4 (some ⟨g, 0 + 3, none⟩) (12 - 3) (c4 - 3) (P.drop 3) from C4.out).grown (gDrew (grown_alloc _ pk0 none)))
  clear x0 x1 x2 x3
  have x0 : w4.drew.cell? ⟨w.heap.size, 0, none⟩ = some (.int .i64 e) := blkC D4.out 0 rfl
  have x1 : w4.drew.cell? ⟨w.heap.size, 3, none⟩ = some (.slice ba 6 bc) := blkC D4.out 3 rfl
  have x2 : w4.drew.cell? ⟨g, 2, none⟩ = some (.int .i64 p2) := q2
  have z0 : (w4.alloc pk0).drew.cell? ⟨w.heap.size, 0, none⟩ = some (.int .i64 e) := blkC (blkA D4.out) 0 rfl
  have z1 : (w4.alloc pk0).drew.cell? ⟨w.heap.size, 3, none⟩ = some (.slice ba 6 bc) := blkC (blkA D4.out) 3 rfl
  have z2 : (w4.alloc pk0).drew.cell? ⟨g, 2, none⟩ = some (.int .i64 p2) := cell_ad q2
  have hc3 : 3 < c4 := by omega
  have hc4 : ¬ c4 ≤ 3 := by omega
  go_region_held3 (fun w' => w'.cell? ⟨w.heap.size, 0, none⟩ = some (.int .i64 e) ∧ w'.cell? ⟨w.heap.size, 3, none⟩ = some (.slice ba 6 bc) ∧ w'.cell? ⟨g, 2, none⟩ = some (.int .i64 p2)) (first | go_keep | with_reducible exact ⟨x0, x1, x2⟩ | with_reducible exact ⟨z0, z1, z2⟩ | with_reducible exact ⟨y0, y1, y2⟩ | with_reducible exact ⟨t0, t1, t2⟩ | with_reducible exact ⟨u0, u1, u2⟩ | with_reducible exact ⟨v0, v1, v2⟩ | with_reducible exact ⟨s0, s1, s2⟩)
    (first
    | (go_at_call 57; refine (factorOf_any k _ KR.out).mono ?_; rintro q w' ⟨rfl, rfl⟩)
    | (go_at_call 56; refine (blindOf_any _ _ _).mono ?_; rintro q w' ⟨rfl, rfl⟩; rw [HE.out])
    | (go_at_call 49; refine (clone_any _ _ _ _ (P.drop 3) CX.out (by omega)).mono ?_; rintro q w6 ⟨a6, c6, rfl, o6, g6⟩; rw [LD.out] at o6 ⊢; have y0 := g6.cell x0 (by simp); have y1 := g6.cell x1 (by simp); have y2 := g6.cell x2 (by simp); have t0 := (grown_alloc w6 pk0 none).cell y0 (by simp); have t1 := (grown_alloc w6 pk0 none).cell y1 (by simp); have t2 := (grown_alloc w6 pk0 none).cell y2 (by simp); have BY := Lib.hid (show IntsAt w6 ba 6 bc B from (B4.out.grown (gDrew (grown_refl _ none))).grown g6); have BZ := Lib.hid (BY.out.grown (grown_alloc w6 pk0 none)); have GY : w4.grownBy w6 none := grown_trans (gDrew (grown_refl _ none)) g6)
    | (go_at_call 49; refine (clone_any _ _ _ _ (P.drop 3) CZ.out (by omega)).mono ?_; rintro q w6 ⟨a6, c6, rfl, o6, g6⟩; rw [LD.out] at o6 ⊢; have y0 := g6.cell z0 (by simp); have y1 := g6.cell z1 (by simp); have y2 := g6.cell z2 (by simp); have BY := Lib.hid (show IntsAt w6 ba 6 bc B from (B4.out.grown (gDrew (grown_alloc _ pk0 none))).grown g6); have GY : w4.grownBy w6 none := grown_trans (gDrew (grown_alloc _ pk0 none)) g6; have P3 := Lib.hid (blkK g6 (show (w4.alloc pk0).drew.heap[w4.heap.size]? = some pk0 from heap_alloc_new w4 pk0) (by simp)))
    | (go_at_call 53; refine (maskOff_any _ _ _ _ B k BZ.out LB.out KR.out).mono ?_; rintro q w7 ⟨a7, c7, rfl, o7, g7⟩; rw [LO.out] at o7 ⊢; have u0 := g7.cell t0 (by simp); have u1 := g7.cell t1 (by simp); have u2 := g7.cell t2 (by simp); have P0 := Lib.hid (blkK g7 (heap_alloc_new w6 pk0) (by simp)); have d0 := blkC P0.out 0 rfl; have d1 := blkC P0.out 1 rfl; have d2 := blkC P0.out 2 rfl; have d3 := blkC P0.out 3 rfl; have f0 := blkF P0.out 0; have f1 := blkF P0.out 1; have f2 := blkF P0.out 2; have f3 := blkF P0.out 3; have nbx : some w.heap.size ≠ some (w6.heap.size) := (show some w.heap.size ≠ some (w6.heap.size) by have := W4.out; have := GY.size; have := g7.size; simp at *; omega); have ngx : some g ≠ some (w6.heap.size) := (by have := GB.out; have := GY.size; have := g7.size; simp at *; omega); have gsX := (grown_trans (grown_trans (grown_trans (grown_set w7 w6.heap.size 0 (.int .i64 E)) (grown_set _ w6.heap.size 1 (.slice a6 9 c6))) (grown_set _ w6.heap.size 2 (.int .i64 p2))) (grown_set _ w6.heap.size 3 (.slice a7 6 c7))); have s0 := gsX.cell u0 nbx; have s1 := gsX.cell u1 nbx; have s2 := gsX.cell u2 ngx; clear gsX)
    | (go_at_call 53; refine (maskOff_any _ _ _ _ B k BY.out LB.out KR.out).mono ?_; rintro q w7 ⟨a7, c7, rfl, o7, g7⟩; rw [LO.out] at o7 ⊢; have u0 := g7.cell y0 (by simp); have u1 := g7.cell y1 (by simp); have u2 := g7.cell y2 (by simp); have P0 := Lib.hid (blkK g7 P3.out (by simp)); have d0 := blkC P0.out 0 rfl; have d1 := blkC P0.out 1 rfl; have d2 := blkC P0.out 2 rfl; have d3 := blkC P0.out 3 rfl; have f0 := blkF P0.out 0; have f1 := blkF P0.out 1; have f2 := blkF P0.out 2; have f3 := blkF P0.out 3; have nbx : some w.heap.size ≠ some (w4.heap.size) := (show some w.heap.size ≠ some (w4.heap.size) by have := W4.out; have := GY.size; have := g7.size; simp at *; omega); have ngx : some g ≠ some (w4.heap.size) := (by have := GB.out; have := GY.size; have := g7.size; simp at *; omega); have gsX := (grown_trans (grown_trans (grown_trans (grown_set w7 w4.heap.size 0 (.int .i64 E)) (grown_set _ w4.heap.size 1 (.slice a6 9 c6))) (grown_set _ w4.heap.size 2 (.int .i64 p2))) (grown_set _ w4.heap.size 3 (.slice a7 6 c7))); have s0 := gsX.cell u0 nbx; have s1 := gsX.cell u1 nbx; have s2 := gsX.cell u2 ngx; clear gsX)
    | (go_at_call 53; refine (maskOff_any _ _ _ _ B k BY.out LB.out KR.out).mono ?_; rintro q w7 ⟨a7, c7, rfl, o7, g7⟩; rw [LO.out] at o7 ⊢; have u0 := g7.cell y0 (by simp); have u1 := g7.cell y1 (by simp); have u2 := g7.cell y2 (by simp); have v0 := (grown_alloc w7 pk0 none).cell u0 (by simp); have v1 := (grown_alloc w7 pk0 none).cell u1 (by simp); have v2 := (grown_alloc w7 pk0 none).cell u2 (by simp); have P0 := Lib.hid (heap_alloc_new w7 pk0); have d0 := blkC P0.out 0 rfl; have d1 := blkC P0.out 1 rfl; have d2 := blkC P0.out 2 rfl; have d3 := blkC P0.out 3 rfl; have f0 := blkF P0.out 0; have f1 := blkF P0.out 1; have f2 := blkF P0.out 2; have f3 := blkF P0.out 3; have nbx : some w.heap.size ≠ some (w7.heap.size) := (show some w.heap.size ≠ some (w7.heap.size) by have := W4.out; have := GY.size; have := g7.size; simp at *; omega); have ngx : some g ≠ some (w7.heap.size) := (by have := GB.out; have := GY.size; have := g7.size; simp at *; omega); have gsX := (grown_trans (grown_trans (grown_trans (grown_set (w7.alloc pk0) w7.heap.size 0 (.int .i64 E)) (grown_set _ w7.heap.size 1 (.slice a6 9 c6))) (grown_set _ w7.heap.size 2 (.int .i64 p2))) (grown_set _ w7.heap.size 3 (.slice a7 6 c7))); have s0 := gsX.cell v0 nbx; have s1 := gsX.cell v1 nbx; have s2 := gsX.cell v2 ngx; clear gsX))
  · clear y0 y1 y2 t0 t1 t2 u0 u1 u2 v0 v1 v2 s0 s1 s2 d0 d1 d2 d3 f0 f1 f2 f3
    have ga := grown_alloc w7 (.cells #[.int .i64 E, .slice a6 9 c6, .int .i64 p2, .slice a7 6 c7] 35) none
    have GX := Lib.hid (grown_trans GY (grown_trans g7 ga))
    have XO := Lib.hid (OwnI.grown o6 (grown_trans g7 ga))
    have YO := Lib.hid (OwnI.grown o7 ga)
    have XP := Lib.hid (heap_alloc_new w7 (.cells #[.int .i64 E, .slice a6 9 c6, .int .i64 p2, .slice a7 6 c7] 35))
    have W6 := Lib.hid (show w4.heap.size ≤ w6.heap.size from GY.size)
    have W7 := Lib.hid (show w6.heap.size ≤ w7.heap.size from g7.size)
    have xw : w.heap.size + 2 ≤ w7.heap.size := by have := W4.out; have := W6.out; have := W7.out; omega
    obtain ⟨w9, hw9⟩ : ∃ x, w7.alloc (.cells #[.int .i64 E, .slice a6 9 c6, .int .i64 p2, .slice a7 6 c7] 35) = x := ⟨_, rfl⟩
    obtain ⟨xp, hxp⟩ : ∃ x, w7.heap.size = x := ⟨_, rfl⟩
    rw [hw9] at GX XO YO XP ⊢
    rw [hxp] at XP xw ⊢
    have XO9 := Lib.hid (Own.lower XO.out (show w4.heap.size ≤ w4.drew.heap.size from Nat.le_refl _))
    have YO9 := Lib.hid (Own.lower YO.out W6.out)
    have q09 := GX.out.cell q0 (by simp)
    have q19 := GX.out.cell q1 (by simp)
    clear hw9 hxp XO YO W6 W7 ga GY g7 o6 o7
    have R9 := Lib.hid (blkK GX.out R4.out (by simp))
    clear q0 q1 q2 x0 x1 x2 z0 z1 z2
    have d0 := blkC R9.out 0 rfl
    have d1 := blkC R9.out 1 rfl
    have d2 := blkC R9.out 2 rfl
    have d3 := blkC R9.out 3 rfl
    have d4 := blkC R9.out 4 rfl
    have d5 := blkC R9.out 5 rfl
    have f0 := blkF R9.out 0
    have f1 := blkF R9.out 1
    have f2 := blkF R9.out 2
    have f3 := blkF R9.out 3
    have f4 := blkF R9.out 4
    have f5 := blkF R9.out 5
    have e0 := blkC XP.out 0 rfl
    have e1 := blkC XP.out 1 rfl
    have e2 := blkC XP.out 2 rfl
    have e3 := blkC XP.out 3 rfl
    have gs := grown_trans (grown_trans (grown_trans (grown_trans (grown_trans (grown_set w9 (w.heap.size + 1) 0 (.int .i64 p0)) (grown_set _ (w.heap.size + 1) 1 (.int .i64 p1))) (grown_set _ (w.heap.size + 1) 2 (.int .i64 E))) (grown_set _ (w.heap.size + 1) 3 (.slice a6 9 c6))) (grown_set _ (w.heap.size + 1) 4 (.int .i64 p2))) (grown_set _ (w.heap.size + 1) 5 (.slice a7 6 c7))
    have nx : some xp ≠ some (w.heap.size + 1) := by simp; omega
    have ng : some g ≠ some (w.heap.size + 1) := by have := GL.out; simp; omega
    have n0 := cell_dr q09
    have n1 := cell_dr q19
    have n2 := cell_dr e0
    have n3 := cell_dr e1
    have n4 := cell_dr e2
    have n5 := cell_dr e3
    have m0 := cell_dr (gs.cell q09 ng)
    have m1 := cell_dr (gs.cell q19 ng)
    have m2 := cell_dr (gs.cell e0 nx)
    have m3 := cell_dr (gs.cell e1 nx)
    have m4 := cell_dr (gs.cell e2 nx)
    have m5 := cell_dr (gs.cell e3 nx)
    have GZ := Lib.hid (gDrew (grown_new (grown_trans GW.out GX.out) gs (by omega)))
    have XZ := Lib.hid (OwnI.grown (OwnI.row XO9.out gs (fun k e => by simp at e; have := W4.out; omega)) (gDrew (grown_refl _ none)))
    have YZ := Lib.hid (OwnI.grown (OwnI.row YO9.out gs (fun k e => by simp at e; have := W4.out; omega)) (gDrew (grown_refl _ none)))
    clear gs q09 q19 e0 e1 e2 e3
    go_wp2_with fail
    go_region_held3 (fun w' => w'.cell? ⟨g, 0, none⟩ = some (.int .i64 p0) ∧ w'.cell? ⟨g, 1, none⟩ = some (.int .i64 p1) ∧ w'.cell? ⟨xp, 0, none⟩ = some (.int .i64 E) ∧ w'.cell? ⟨xp, 1, none⟩ = some (.slice a6 9 c6) ∧ w'.cell? ⟨xp, 2, none⟩ = some (.int .i64 p2) ∧ w'.cell? ⟨xp, 3, none⟩ = some (.slice a7 6 c7)) (first | go_keep | with_reducible exact ⟨n0, n1, n2, n3, n4, n5⟩ | with_reducible exact ⟨m0, m1, m2, m3, m4, m5⟩)
      (first | (go_at_call 53; skip))
    all_goals
      go_wp2
      refine bodyPost_ret (v := .tuple #[.agg #[.int .i64 p0, .int .i64 p1, .int .i64 E, .slice a6 9 c6, .int .i64 p2, .slice a7 6 c7], .bool true]) ?_ rfl ?_
      · (simp only [results, Try.results18]; go_simp)
      · refine ⟨a6, c6, a7, c7, ?_, ?_, ?_, GZ.out⟩
        · rw [Hp0.out, Hp1.out, Hp2.out]
        · exact Own.lower XZ.out (by have := W4.out; omega)
        · exact Own.lower YZ.out (by have := W4.out; omega)
  · clear y0 y1 y2 t0 t1 t2 u0 u1 u2 s0 s1 s2 d0 d1 d2 d3 f0 f1 f2 f3
    have G67 := (grown_trans (grown_alloc w6 pk0 none) g7)
    have gb := (grown_trans (grown_trans (grown_trans (grown_set w7 w6.heap.size 0 (.int .i64 E)) (grown_set _ w6.heap.size 1 (.slice a6 9 c6))) (grown_set _ w6.heap.size 2 (.int .i64 p2))) (grown_set _ w6.heap.size 3 (.slice a7 6 c7)))
    have hX : w4.heap.size ≤ w6.heap.size := by first | exact Nat.le_refl _ | exact GY.size
    have W6 := Lib.hid (show w4.heap.size ≤ w6.heap.size from GY.size)
    have xw : w.heap.size + 2 ≤ w6.heap.size := by have := W4.out; omega
    have GX := Lib.hid (grown_new (grown_trans GY G67) gb hX)
    have o6' := OwnI.grown o6 G67
    have XO := Lib.hid (Own.apart o6' gb (ap_ne (fun k e => own_ne o6' P0.out (by decide) e)))
    have YO := Lib.hid (Own.apart o7 gb (ap_ne (fun k e => own_ne o7 P0.out (by decide) e)))
    have XP := Lib.hid (show ((((w7.setCell ⟨w6.heap.size, 0, none⟩ (.int .i64 E)).setCell ⟨w6.heap.size, 1, none⟩ (.slice a6 9 c6)).setCell ⟨w6.heap.size, 2, none⟩ (.int .i64 p2)).setCell ⟨w6.heap.size, 3, none⟩ (.slice a7 6 c7)).heap[w6.heap.size]? = some (.cells #[.int .i64 E, .slice a6 9 c6, .int .i64 p2, .slice a7 6 c7] 35) from box4 P0.out _ _ _ _)
    obtain ⟨w9, hw9⟩ : ∃ x, ((((w7.setCell ⟨w6.heap.size, 0, none⟩ (.int .i64 E)).setCell ⟨w6.heap.size, 1, none⟩ (.slice a6 9 c6)).setCell ⟨w6.heap.size, 2, none⟩ (.int .i64 p2)).setCell ⟨w6.heap.size, 3, none⟩ (.slice a7 6 c7)) = x := ⟨_, rfl⟩
    rw [hw9] at GX XO YO XP ⊢
    obtain ⟨xp, hxp⟩ : ∃ x, w6.heap.size = x := ⟨_, rfl⟩
    have XO9 := Lib.hid (Own.lower XO.out (show w4.heap.size ≤ _ by simp))
    have YO9 := Lib.hid (Own.lower YO.out (show w4.heap.size ≤ _ by have := W6.out; simp; try omega))
    have q09 := GX.out.cell q0 (by simp)
    have q19 := GX.out.cell q1 (by simp)
    clear hw9 XO YO P0 gb GY g7 o6 o6' o7 G67
    rw [hxp] at XP xw ⊢
    clear hxp hX W6
    have R9 := Lib.hid (blkK GX.out R4.out (by simp))
    clear q0 q1 q2 x0 x1 x2 z0 z1 z2
    have d0 := blkC R9.out 0 rfl
    have d1 := blkC R9.out 1 rfl
    have d2 := blkC R9.out 2 rfl
    have d3 := blkC R9.out 3 rfl
    have d4 := blkC R9.out 4 rfl
    have d5 := blkC R9.out 5 rfl
    have f0 := blkF R9.out 0
    have f1 := blkF R9.out 1
    have f2 := blkF R9.out 2
    have f3 := blkF R9.out 3
    have f4 := blkF R9.out 4
    have f5 := blkF R9.out 5
    have e0 := blkC XP.out 0 rfl
    have e1 := blkC XP.out 1 rfl
    have e2 := blkC XP.out 2 rfl
    have e3 := blkC XP.out 3 rfl
    have gs := grown_trans (grown_trans (grown_trans (grown_trans (grown_trans (grown_set w9 (w.heap.size + 1) 0 (.int .i64 p0)) (grown_set _ (w.heap.size + 1) 1 (.int .i64 p1))) (grown_set _ (w.heap.size + 1) 2 (.int .i64 E))) (grown_set _ (w.heap.size + 1) 3 (.slice a6 9 c6))) (grown_set _ (w.heap.size + 1) 4 (.int .i64 p2))) (grown_set _ (w.heap.size + 1) 5 (.slice a7 6 c7))
    have nx : some xp ≠ some (w.heap.size + 1) := by simp; omega
    have ng : some g ≠ some (w.heap.size + 1) := by have := GL.out; simp; omega
    have n0 := cell_dr q09
    have n1 := cell_dr q19
    have n2 := cell_dr e0
    have n3 := cell_dr e1
    have n4 := cell_dr e2
    have n5 := cell_dr e3
    have m0 := cell_dr (gs.cell q09 ng)
    have m1 := cell_dr (gs.cell q19 ng)
    have m2 := cell_dr (gs.cell e0 nx)
    have m3 := cell_dr (gs.cell e1 nx)
    have m4 := cell_dr (gs.cell e2 nx)
    have m5 := cell_dr (gs.cell e3 nx)
    have GZ := Lib.hid (gDrew (grown_new (grown_trans GW.out GX.out) gs (by omega)))
    have XZ := Lib.hid (OwnI.grown (OwnI.row XO9.out gs (fun k e => by simp at e; have := W4.out; omega)) (gDrew (grown_refl _ none)))
    have YZ := Lib.hid (OwnI.grown (OwnI.row YO9.out gs (fun k e => by simp at e; have := W4.out; omega)) (gDrew (grown_refl _ none)))
    clear gs q09 q19 e0 e1 e2 e3
    go_wp2_with fail
    go_region_held3 (fun w' => w'.cell? ⟨g, 0, none⟩ = some (.int .i64 p0) ∧ w'.cell? ⟨g, 1, none⟩ = some (.int .i64 p1) ∧ w'.cell? ⟨xp, 0, none⟩ = some (.int .i64 E) ∧ w'.cell? ⟨xp, 1, none⟩ = some (.slice a6 9 c6) ∧ w'.cell? ⟨xp, 2, none⟩ = some (.int .i64 p2) ∧ w'.cell? ⟨xp, 3, none⟩ = some (.slice a7 6 c7)) (first | go_keep | with_reducible exact ⟨n0, n1, n2, n3, n4, n5⟩ | with_reducible exact ⟨m0, m1, m2, m3, m4, m5⟩)
      (first | (go_at_call 53; skip))
    all_goals
      go_wp2
      refine bodyPost_ret (v := .tuple #[.agg #[.int .i64 p0, .int .i64 p1, .int .i64 E, .slice a6 9 c6, .int .i64 p2, .slice a7 6 c7], .bool true]) ?_ rfl ?_
      · (simp only [results, Try.results18]; go_simp)
      · refine ⟨a6, c6, a7, c7, ?_, ?_, ?_, GZ.out⟩
        · rw [Hp0.out, Hp1.out, Hp2.out]
        · exact Own.lower XZ.out (by have := W4.out; omega)
        · exact Own.lower YZ.out (by have := W4.out; omega)
  all_goals
    clear y0 y1 y2 u0 u1 u2 s0 s1 s2 d0 d1 d2 d3 f0 f1 f2 f3
    have G67 := g7
    have gb := (grown_trans (grown_trans (grown_trans (grown_set w7 w4.heap.size 0 (.int .i64 E)) (grown_set _ w4.heap.size 1 (.slice a6 9 c6))) (grown_set _ w4.heap.size 2 (.int .i64 p2))) (grown_set _ w4.heap.size 3 (.slice a7 6 c7)))
    have hX : w4.heap.size ≤ w4.heap.size := by first | exact Nat.le_refl _ | exact GY.size
    have W6 := Lib.hid (show w4.heap.size ≤ w6.heap.size from GY.size)
    have xw : w.heap.size + 2 ≤ w4.heap.size := by have := W4.out; omega
    have GX := Lib.hid (grown_new (grown_trans GY G67) gb hX)
    have o6' := OwnI.grown o6 G67
    have XO := Lib.hid (Own.apart o6' gb (ap_ne (fun k e => own_ne o6' P0.out (by decide) e)))
    have YO := Lib.hid (Own.apart o7 gb (ap_ne (fun k e => own_ne o7 P0.out (by decide) e)))
    have XP := Lib.hid (show ((((w7.setCell ⟨w4.heap.size, 0, none⟩ (.int .i64 E)).setCell ⟨w4.heap.size, 1, none⟩ (.slice a6 9 c6)).setCell ⟨w4.heap.size, 2, none⟩ (.int .i64 p2)).setCell ⟨w4.heap.size, 3, none⟩ (.slice a7 6 c7)).heap[w4.heap.size]? = some (.cells #[.int .i64 E, .slice a6 9 c6, .int .i64 p2, .slice a7 6 c7] 35) from box4 P0.out _ _ _ _)
    obtain ⟨w9, hw9⟩ : ∃ x, ((((w7.setCell ⟨w4.heap.size, 0, none⟩ (.int .i64 E)).setCell ⟨w4.heap.size, 1, none⟩ (.slice a6 9 c6)).setCell ⟨w4.heap.size, 2, none⟩ (.int .i64 p2)).setCell ⟨w4.heap.size, 3, none⟩ (.slice a7 6 c7)) = x := ⟨_, rfl⟩
    rw [hw9] at GX XO YO XP ⊢
    obtain ⟨xp, hxp⟩ : ∃ x, w4.heap.size = x := ⟨_, rfl⟩
    have XO9 := Lib.hid (Own.lower XO.out (show w4.heap.size ≤ _ by simp))
    have YO9 := Lib.hid (Own.lower YO.out (show w4.heap.size ≤ _ by have := W6.out; simp; try omega))
    have q09 := GX.out.cell q0 (by simp)
    have q19 := GX.out.cell q1 (by simp)
    clear hw9 XO YO P0 gb GY g7 o6 o6' o7 G67
    rw [hxp] at XP xw ⊢
    clear hxp hX W6
    have R9 := Lib.hid (blkK GX.out R4.out (by simp))
    clear q0 q1 q2 x0 x1 x2 z0 z1 z2
    have d0 := blkC R9.out 0 rfl
    have d1 := blkC R9.out 1 rfl
    have d2 := blkC R9.out 2 rfl
    have d3 := blkC R9.out 3 rfl
    have d4 := blkC R9.out 4 rfl
    have d5 := blkC R9.out 5 rfl
    have f0 := blkF R9.out 0
    have f1 := blkF R9.out 1
    have f2 := blkF R9.out 2
    have f3 := blkF R9.out 3
    have f4 := blkF R9.out 4
    have f5 := blkF R9.out 5
    have e0 := blkC XP.out 0 rfl
    have e1 := blkC XP.out 1 rfl
    have e2 := blkC XP.out 2 rfl
    have e3 := blkC XP.out 3 rfl
    have gs := grown_trans (grown_trans (grown_trans (grown_trans (grown_trans (grown_set w9 (w.heap.size + 1) 0 (.int .i64 p0)) (grown_set _ (w.heap.size + 1) 1 (.int .i64 p1))) (grown_set _ (w.heap.size + 1) 2 (.int .i64 E))) (grown_set _ (w.heap.size + 1) 3 (.slice a6 9 c6))) (grown_set _ (w.heap.size + 1) 4 (.int .i64 p2))) (grown_set _ (w.heap.size + 1) 5 (.slice a7 6 c7))
    have nx : some xp ≠ some (w.heap.size + 1) := by simp; omega
    have ng : some g ≠ some (w.heap.size + 1) := by have := GL.out; simp; omega
    have n0 := cell_dr q09
    have n1 := cell_dr q19
    have n2 := cell_dr e0
    have n3 := cell_dr e1
    have n4 := cell_dr e2
    have n5 := cell_dr e3
    have m0 := cell_dr (gs.cell q09 ng)
    have m1 := cell_dr (gs.cell q19 ng)
    have m2 := cell_dr (gs.cell e0 nx)
    have m3 := cell_dr (gs.cell e1 nx)
    have m4 := cell_dr (gs.cell e2 nx)
    have m5 := cell_dr (gs.cell e3 nx)
    have GZ := Lib.hid (gDrew (grown_new (grown_trans GW.out GX.out) gs (by omega)))
    have XZ := Lib.hid (OwnI.grown (OwnI.row XO9.out gs (fun k e => by simp at e; have := W4.out; omega)) (gDrew (grown_refl _ none)))
    have YZ := Lib.hid (OwnI.grown (OwnI.row YO9.out gs (fun k e => by simp at e; have := W4.out; omega)) (gDrew (grown_refl _ none)))
    clear gs q09 q19 e0 e1 e2 e3
    go_wp2_with fail
    go_region_held3 (fun w' => w'.cell? ⟨g, 0, none⟩ = some (.int .i64 p0) ∧ w'.cell? ⟨g, 1, none⟩ = some (.int .i64 p1) ∧ w'.cell? ⟨xp, 0, none⟩ = some (.int .i64 E) ∧ w'.cell? ⟨xp, 1, none⟩ = some (.slice a6 9 c6) ∧ w'.cell? ⟨xp, 2, none⟩ = some (.int .i64 p2) ∧ w'.cell? ⟨xp, 3, none⟩ = some (.slice a7 6 c7)) (first | go_keep | with_reducible exact ⟨n0, n1, n2, n3, n4, n5⟩ | with_reducible exact ⟨m0, m1, m2, m3, m4, m5⟩)
      (first | (go_at_call 53; skip))
    all_goals
      go_wp2
      refine bodyPost_ret (v := .tuple #[.agg #[.int .i64 p0, .int .i64 p1, .int .i64 E, .slice a6 9 c6, .int .i64 p2, .slice a7 6 c7], .bool true]) ?_ rfl ?_
      · (simp only [results, Try.results18]; go_simp)
      · refine ⟨a6, c6, a7, c7, ?_, ?_, ?_, GZ.out⟩
        · rw [Hp0.out, Hp1.out, Hp2.out]
        · exact Own.lower XZ.out (by have := W4.out; omega)
        · exact Own.lower YZ.out (by have := W4.out; omega)
end Go.Proofs.Ytedpkhboepahgaa
