/- A mix that holds a packet takes the same block again. -/
import Derived.Test.YtedpkhboepahgaaMx3
import Derived.WalkKit
import Derived.Lib.Hide
import Derived.Deep.QuietTactic
import Derived.BigQuiet
import Derived.OwnWalk
namespace Go.Proofs.Ytedpkhboepahgaa
open Go.RowKit
set_option maxRecDepth 8000 in
set_option maxHeartbeats 2000000 in
theorem mixTake1 (s e t : Int) (w : World) (ha : Option Addr) (hc : Nat) (ba : Option Addr) (bc : Nat) (H B P : List Int) (h : IntsAt w ha 9 hc H) (h' : IntsAt w ba 6 bc B) (hs : 1 ≤ s ∧ s ≤ 996) (hV : vB e H t B = true) (hT : t = tagL (prodZ s e) H) (hP : offL (H ++ [0, 0, 0]) (prodZ s e) = P) (h0 : 0 ≤ P.getD 0 0 ∧ P.getD 0 0 ≤ 1) (h1 : 0 ≤ P.getD 1 0 ∧ P.getD 1 0 ≤ 7)
    (r0 r1 r2 e' : Int) (sa : Option Addr) (sc pb pc : Nat) (xa : Option Addr) (xc : Nat) (ya : Option Addr) (yc : Nat) (X Y : List Int) (hS : IntsAt w sa 1 sc [prodZ s e]) (hO : PoolAt w pb r0 r1 e' xa xc r2 ya yc) (k : IntsAt w xa 9 xc X) (k' : IntsAt w ya 6 yc Y) (k0 : 0 ≤ r0 ∧ r0 ≤ 1) (k1 : 0 ≤ r1 ∧ r1 ≤ 7) (kV : vB e' X r2 Y = true) :
    Calls Try.prog 21 #[.agg #[.int .i64 s, .slice sa 1 sc, .slice (some ⟨pb, 0, none⟩) 1 pc], .agg #[.int .i64 e, .slice ha 9 hc, .int .i64 t, .slice ba 6 bc]] w fun q w' => ∃ a c g d, q = .returned (.tuple #[.agg #[.int .i64 s, .slice a 1 c, .slice (some ⟨g, 0, none⟩) 1 d], .int .i64 1]) ∧ w.grownBy w' none := by
  have G0 := Lib.hid (show w.grownBy (((w.alloc (.cells #[.int .i64 s, .slice sa 1 sc, .slice (some ⟨pb, 0, none⟩) 1 pc] 47)).alloc (.cells #[.int .i64 e, .slice ha 9 hc, .int .i64 t, .slice ba 6 bc] 35)).alloc mx0) none from gAlloc (gAlloc (grown_alloc w _ none) _) _)
  have DM0 := Lib.hid (show (((w.alloc (.cells #[.int .i64 s, .slice sa 1 sc, .slice (some ⟨pb, 0, none⟩) 1 pc] 47)).alloc (.cells #[.int .i64 e, .slice ha 9 hc, .int .i64 t, .slice ba 6 bc] 35)).alloc mx0).heap[w.heap.size]? = some (.cells #[.int .i64 s, .slice sa 1 sc, .slice (some ⟨pb, 0, none⟩) 1 pc] 47) from blkA (blkA (heap_alloc_new w _)))
  have DP0 := Lib.hid (show (((w.alloc (.cells #[.int .i64 s, .slice sa 1 sc, .slice (some ⟨pb, 0, none⟩) 1 pc] 47)).alloc (.cells #[.int .i64 e, .slice ha 9 hc, .int .i64 t, .slice ba 6 bc] 35)).alloc mx0).heap[w.heap.size + 1]? = some (.cells #[.int .i64 e, .slice ha 9 hc, .int .i64 t, .slice ba 6 bc] 35) from blkA (heap_next (by simp)))
  have R0 := Lib.hid (show (((w.alloc (.cells #[.int .i64 s, .slice sa 1 sc, .slice (some ⟨pb, 0, none⟩) 1 pc] 47)).alloc (.cells #[.int .i64 e, .slice ha 9 hc, .int .i64 t, .slice ba 6 bc] 35)).alloc mx0).heap[w.heap.size + 1 + 1]? = some mx0 from heap_next (by simp))
  have HS := Lib.hid hs
  have HV := Lib.hid hV
  have HT := Lib.hid hT
  have HPP := Lib.hid hP
  have H01 := Lib.hid h0
  have H17 := Lib.hid h1
  have K01 := Lib.hid k0
  have K17 := Lib.hid k1
  have KV := Lib.hid kV
  have KE := Lib.hid (prod_el hs (vB_iff.1 hV).1)
  have HH := Lib.hid (h.grown G0.out)
  have HB := Lib.hid (h'.grown G0.out)
  have XX := Lib.hid (k.grown G0.out)
  have YY := Lib.hid (k'.grown G0.out)
  have SS := Lib.hid (hS.grown G0.out)
  have OO := Lib.hid (hO.grown G0.out)
  have d0 := blkC DM0.out 0 rfl
  have d1 := blkC DM0.out 1 rfl
  have d2 := blkC DM0.out 2 rfl
  clear h h' hs hV hT hP h0 h1 k k' hS hO k0 k1 kV
  go_enter Try.func21, Try.ntmps21
  go_wp2_with fail
  refine (mixValid1 s _ r0 r1 e' r2 _ sa sc pb pc xa xc ya yc X Y HS.out KE.out SS.out OO.out XX.out YY.out K01.out K17.out KV.out).mono ?_
  rintro q w1 ⟨rfl, g1⟩
  have DP1 := Lib.hid (blkK g1 DP0.out (by simp))
  clear d0 d1 d2
  have q0 := blkC DP1.out 0 rfl
  have q1 := blkC DP1.out 1 rfl
  have q2 := blkC DP1.out 2 rfl
  have q3 := blkC DP1.out 3 rfl
  go_wp2_with fail
  refine (packetValid_any e t _ ha 9 hc ba 6 bc H B (HH.out.grown g1) (HB.out.grown g1)).mono ?_
  rintro q w2 ⟨rfl, g2⟩
  rw [HV.out]
  have G2 := Lib.hid (grown_trans g1 g2)
  have DM2 := Lib.hid (blkK G2.out DM0.out (by simp))
  clear q0 q1 q2 q3 g1 g2
  have d0 := blkC DM2.out 0 rfl
  have d1 := blkC DM2.out 1 rfl
  have d2 := blkC DM2.out 2 rfl
  go_wp2_with fail
  refine (copyMix1 s _ r0 r1 e' r2 _ sa sc pb pc xa xc ya yc X Y (SS.out.grown G2.out) (OO.out.grown G2.out) (XX.out.grown G2.out) (YY.out.grown G2.out)).mono ?_
  rintro q w3 ⟨a3, c3, pg, pd, rfl, g3⟩
  have ga := grown_alloc w3 (.cells #[.int .i64 s, .slice a3 1 c3, .slice (some ⟨pg, 0, none⟩) 1 pd] 47) none
  have G3 := Lib.hid (grown_trans G2.out (grown_trans g3 ga))
  have DO3 := Lib.hid (heap_alloc_new w3 (.cells #[.int .i64 s, .slice a3 1 c3, .slice (some ⟨pg, 0, none⟩) 1 pd] 47))
  have DM3 := Lib.hid (blkK (grown_trans g3 ga) DM2.out (by simp))
  have DP3 := Lib.hid (blkK G3.out DP0.out (by simp))
  obtain ⟨xo, hxo⟩ : ∃ x, w3.heap.size = x := ⟨_, rfl⟩
  rw [hxo] at DO3
  clear d0 d1 d2 g3 ga G2 DM2 DP1
  have d0 := blkC DM3.out 0 rfl
  have d1 := blkC DM3.out 1 rfl
  have d2 := blkC DM3.out 2 rfl
  have q0 := blkC DP3.out 0 rfl
  have q1 := blkC DP3.out 1 rfl
  have q2 := blkC DP3.out 2 rfl
  have q3 := blkC DP3.out 3 rfl
  go_wp2_with fail
  refine (packetPeel_any s e t _ ha hc ba bc H B P (HH.out.grown G3.out) (HB.out.grown G3.out) HS.out HV.out HT.out HPP.out H01.out H17.out).mono ?_
  rintro q w5 ⟨ua, uc, va, vc, rfl, -, -, g5⟩
  clear hxo
  obtain ⟨p0, hp0⟩ : ∃ x, P.getD 0 0 = x := ⟨_, rfl⟩
  obtain ⟨p1, hp1⟩ : ∃ x, P.getD 1 0 = x := ⟨_, rfl⟩
  obtain ⟨p2, hp2⟩ : ∃ x, P.getD 2 0 = x := ⟨_, rfl⟩
  obtain ⟨E2, hE2⟩ : ∃ x, prodZ e (factZ (prodZ s e)) = x := ⟨_, rfl⟩
  obtain ⟨key, hkey⟩ : ∃ x, prodZ s e = x := ⟨_, rfl⟩
  rw [hE2, hp0, hp1, hp2]
  have HK := Lib.hid hkey
  clear hp0 hp1 hp2 hE2
  have ga := grown_alloc w5 (.cells (peC p0 p1 E2 ua uc p2 va vc).toArray 39) none
  have G5 := Lib.hid (grown_trans G3.out (grown_trans g5 ga))
  have S5 := Lib.hid (show IntsAt _ sa 1 sc [key] by rw [← hkey]; exact SS.out.grown G5.out)
  have DO5 := Lib.hid (blkK (grown_trans g5 ga) DO3.out (by simp))
  have DM5 := Lib.hid (blkK (grown_trans g5 ga) DM3.out (by simp))
  have DP5 := Lib.hid (blkK (grown_trans g5 ga) DP3.out (by simp))
  have R5 := Lib.hid (blkK G5.out R0.out (by simp))
  have GZ := Lib.hid (grown_new (grown_trans G0.out G5.out) (grown_trans (grown_trans (grown_set (w5.alloc (.cells (peC p0 p1 E2 ua uc p2 va vc).toArray 39)) (w.heap.size + 1 + 1) 0 (.int .i64 s)) (grown_set _ (w.heap.size + 1 + 1) 1 (.slice a3 1 c3))) (grown_set _ (w.heap.size + 1 + 1) 2 (.slice (some ⟨pg, 0, none⟩) 1 pd))) (by omega))
  clear d0 d1 d2 q0 q1 q2 q3 g5 ga DO3 DM3 DP3 G3 hkey
  have d0 := blkC DM5.out 0 rfl
  have d1 := blkC DM5.out 1 rfl
  have d2 := blkC DM5.out 2 rfl
  have q0 := blkC DP5.out 0 rfl
  have q1 := blkC DP5.out 1 rfl
  have q2 := blkC DP5.out 2 rfl
  have q3 := blkC DP5.out 3 rfl
  have o0 := blkC DO5.out 0 rfl
  have o1 := blkC DO5.out 1 rfl
  have o2 := blkC DO5.out 2 rfl
  have z0 := blkC R5.out 0 rfl
  have z1 := blkC R5.out 1 rfl
  have z2 := blkC R5.out 2 rfl
  have f0 := blkF R5.out 0
  have f1 := blkF R5.out 1
  have f2 := blkF R5.out 2
  go_wp2_with (first | (go_at_call 52; refine (sharedOf_any _ _ _).mono ?_; rintro q w' ⟨rfl, rfl⟩; rw [HK.out]) | (go_at_call 62; refine (contains1 _ _ _ _ S5.out).mono ?_; rintro q w' ⟨rfl, rfl⟩))
  refine bodyPost_ret (v := .tuple #[.agg #[.int .i64 s, .slice a3 1 c3, .slice (some ⟨pg, 0, none⟩) 1 pd], .int .i64 1]) ?_ rfl ⟨a3, c3, pg, pd, rfl, GZ.out⟩
  (simp only [results, Try.results21]; go_simp)
end Go.Proofs.Ytedpkhboepahgaa
