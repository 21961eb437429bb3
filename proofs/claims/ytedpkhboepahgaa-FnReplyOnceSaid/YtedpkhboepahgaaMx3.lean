/- A mix takes a packet, and the same block again. -/
import Derived.Test.YtedpkhboepahgaaMx2
import Derived.WalkKit
import Derived.Lib.Hide
import Derived.Deep.QuietTactic
import Derived.BigQuiet
import Derived.OwnWalk
import Derived.Deep.AppendLies
import Derived.Deep.RegionHeld3
namespace Go.Proofs.Ytedpkhboepahgaa
open Go.RowKit
theorem ap6 {w : World} {B B' n : Nat} {v u : Value} {cs : List Value} {xs : List Int} (h : w.ownsRow B 39 6 v n cs) (k : OwnI B' w u xs) : v.ownBlock = none ∨ v.ownBlock ≠ u.ownBlock := by
  rcases h.2 with ⟨rfl, _⟩ | ⟨g, cap, cur, rfl, hb, hg, _⟩
  · exact .inl rfl
  · refine .inr fun e => ?_
    exact own_ne k hg (by decide) e.symm rfl
theorem ap6' {w : World} {B B' n : Nat} {v u : Value} {cs : List Value} {xs : List Int} (h : w.ownsRow B 39 6 v n cs) (k : OwnI B' w u xs) : u.ownBlock = none ∨ u.ownBlock ≠ v.ownBlock := by
  cases hu : u.ownBlock with
  | none => exact .inl rfl
  | some g =>
    refine .inr fun e => ?_
    rcases ap6 h k with e2 | e2
    · rw [e2] at e; cases e
    · exact e2 (by rw [hu]; exact e.symm)
theorem row_ne {B n X : Nat} {w : World} {v : Value} {xs : List Value} {cs : Array Value} {ty : TypeId} {fr : Nat × Nat} (h : w.ownsRow B 39 6 v n xs) (hX : w.heap[X]? = some (.cells cs ty fr)) (ht : ty ≠ 39) : v.ownBlock = none ∨ v.ownBlock ≠ some X := by
  rcases h.2 with ⟨rfl, hn⟩ | ⟨g, cap, cur, rfl, hb, hg, _⟩
  · exact .inl rfl
  · refine .inr fun e => ?_
    simp [Value.ownBlock] at e
    subst e
    rw [hg] at hX
    simp only [Option.some.injEq, Obj.cells.injEq] at hX
    exact ht hX.2.1.symm
theorem pool_of {w : World} {B g c : Nat} {p0 p1 e : Int} {ha : Option Addr} {hc : Nat} {t : Int} {ba : Option Addr} {bc : Nat} (h : w.ownsRow B 39 6 (.slice (some ⟨g, 0, none⟩) 1 c) 1 (peC p0 p1 e ha hc t ba bc)) : PoolAt w g p0 p1 e ha hc t ba bc :=
  ⟨World.ownsRow.cellAt h 0 (by omega), World.ownsRow.cellAt h 1 (by omega), World.ownsRow.cellAt h 2 (by omega), World.ownsRow.cellAt h 3 (by omega), World.ownsRow.cellAt h 4 (by omega), World.ownsRow.cellAt h 5 (by omega)⟩
def Take0 (s key : Int) (P : List Int) (E2 : Int) (B : List Int) (w : World) (e : Ending) (w' : World) : Prop :=
  ∃ sa sc pb pc xa xc ya yc, e = .returned (.tuple #[.agg #[.int .i64 s, .slice sa 1 sc, .slice (some ⟨pb, 0, none⟩) 1 pc], .int .i64 0]) ∧ IntsAt w' sa 1 sc [key] ∧ PoolAt w' pb (P.getD 0 0) (P.getD 1 0) E2 xa xc (P.getD 2 0) ya yc ∧
    IntsAt w' xa 9 xc (P.drop 3) ∧ IntsAt w' ya 6 yc B ∧ w.grownBy w' none
set_option maxRecDepth 8000 in
set_option maxHeartbeats 2000000 in
theorem mixTake0 (s e t : Int) (w : World) (ha : Option Addr) (hc : Nat) (ba : Option Addr) (bc : Nat) (H B P : List Int) (h : IntsAt w ha 9 hc H) (h' : IntsAt w ba 6 bc B) (hs : 1 ≤ s ∧ s ≤ 996) (hV : vB e H t B = true) (hT : t = tagL (prodZ s e) H) (hP : offL (H ++ [0, 0, 0]) (prodZ s e) = P) (h0 : 0 ≤ P.getD 0 0 ∧ P.getD 0 0 ≤ 1) (h1 : 0 ≤ P.getD 1 0 ∧ P.getD 1 0 ≤ 7) :
    Calls Try.prog 21 #[.agg #[.int .i64 s, .slice none 0 0, .slice none 0 0], .agg #[.int .i64 e, .slice ha 9 hc, .int .i64 t, .slice ba 6 bc]] w (Take0 s (prodZ s e) P (prodZ e (factZ (prodZ s e))) (offL B (prodZ s e)) w) := by
  have G0 := Lib.hid (show w.grownBy (((w.alloc (.cells #[.int .i64 s, .slice none 0 0, .slice none 0 0] 47)).alloc (.cells #[.int .i64 e, .slice ha 9 hc, .int .i64 t, .slice ba 6 bc] 35)).alloc mx0) none from gAlloc (gAlloc (grown_alloc w _ none) _) _)
  have DM0 := Lib.hid (show (((w.alloc (.cells #[.int .i64 s, .slice none 0 0, .slice none 0 0] 47)).alloc (.cells #[.int .i64 e, .slice ha 9 hc, .int .i64 t, .slice ba 6 bc] 35)).alloc mx0).heap[w.heap.size]? = some (.cells #[.int .i64 s, .slice none 0 0, .slice none 0 0] 47) from blkA (blkA (heap_alloc_new w _)))
  have DP0 := Lib.hid (show (((w.alloc (.cells #[.int .i64 s, .slice none 0 0, .slice none 0 0] 47)).alloc (.cells #[.int .i64 e, .slice ha 9 hc, .int .i64 t, .slice ba 6 bc] 35)).alloc mx0).heap[w.heap.size + 1]? = some (.cells #[.int .i64 e, .slice ha 9 hc, .int .i64 t, .slice ba 6 bc] 35) from blkA (heap_next (by simp)))
  have R0 := Lib.hid (show (((w.alloc (.cells #[.int .i64 s, .slice none 0 0, .slice none 0 0] 47)).alloc (.cells #[.int .i64 e, .slice ha 9 hc, .int .i64 t, .slice ba 6 bc] 35)).alloc mx0).heap[w.heap.size + 1 + 1]? = some mx0 from heap_next (by simp))
  have WZ := Lib.hid (show (((w.alloc (.cells #[.int .i64 s, .slice none 0 0, .slice none 0 0] 47)).alloc (.cells #[.int .i64 e, .slice ha 9 hc, .int .i64 t, .slice ba 6 bc] 35)).alloc mx0).heap.size = w.heap.size + 3 by simp)
  have HS := Lib.hid hs
  have HV := Lib.hid hV
  have HT := Lib.hid hT
  have HPP := Lib.hid hP
  have H01 := Lib.hid h0
  have H17 := Lib.hid h1
  have HH := Lib.hid (h.grown G0.out)
  have HB := Lib.hid (h'.grown G0.out)
  have d0 := blkC DM0.out 0 rfl
  have d1 := blkC DM0.out 1 rfl
  have d2 := blkC DM0.out 2 rfl
  clear h h' hs hV hT hP h0 h1
  go_enter Try.func21, Try.ntmps21
  go_wp2_with fail
  refine (mixValid0 s _ HS.out).mono ?_
  rintro q w1 ⟨rfl, g1⟩
  have DP1 := Lib.hid (blkK g1 DP0.out (by simp))
  clear d0 d1 d2
  have e0 := blkC DP1.out 0 rfl
  have e1 := blkC DP1.out 1 rfl
  have e2 := blkC DP1.out 2 rfl
  have e3 := blkC DP1.out 3 rfl
  go_wp2_with fail
  refine (packetValid_any e t _ ha 9 hc ba 6 bc H B (HH.out.grown g1) (HB.out.grown g1)).mono ?_
  rintro q w2 ⟨rfl, g2⟩
  rw [HV.out]
  have G2 := Lib.hid (grown_trans g1 g2)
  have DM2 := Lib.hid (blkK G2.out DM0.out (by simp))
  clear e0 e1 e2 e3 g1 g2
  have d0 := blkC DM2.out 0 rfl
  have d1 := blkC DM2.out 1 rfl
  have d2 := blkC DM2.out 2 rfl
  go_wp2_with fail
  refine (copyMix0 s _).mono ?_
  rintro q w3 ⟨a3, c3, pg, rfl, o3, p3, g3⟩
  have ga := grown_alloc w3 (.cells #[.int .i64 s, .slice a3 0 c3, .slice (some ⟨pg, 0, none⟩) 0 1] 47) none
  have W2 := Lib.hid (show w.heap.size + 3 ≤ w2.heap.size by rw [← WZ.out]; exact G2.out.size)
  have W3 := Lib.hid (show w2.heap.size ≤ w3.heap.size from g3.size)
  have BS := Lib.hid (OwnI.blockIn o3)
  have BP := Lib.hid (World.ownsRow.lt p3)
  have O3 := Lib.hid (OwnI.grown o3 ga)
  have P3 := Lib.hid (own6_grown p3 ga)
  have G3 := Lib.hid (grown_trans G2.out (grown_trans g3 ga))
  have DO3 := Lib.hid (heap_alloc_new w3 (.cells #[.int .i64 s, .slice a3 0 c3, .slice (some ⟨pg, 0, none⟩) 0 1] 47))
  have DM3 := Lib.hid (blkK (grown_trans g3 ga) DM2.out (by simp))
  have DP3 := Lib.hid (blkK G3.out DP0.out (by simp))
  obtain ⟨xo, hxo⟩ : ∃ x, w3.heap.size = x := ⟨_, rfl⟩
  rw [hxo] at DO3 BS BP W3
  have DO3' := DO3
  clear d0 d1 d2 o3 p3 g3 ga G2 DM2 DP1
  have d0 := blkC DM3.out 0 rfl
  have d1 := blkC DM3.out 1 rfl
  have d2 := blkC DM3.out 2 rfl
  have e0 := blkC DP3.out 0 rfl
  have e1 := blkC DP3.out 1 rfl
  have e2 := blkC DP3.out 2 rfl
  have e3 := blkC DP3.out 3 rfl
  go_wp2_with fail
  refine (packetPeel_any s e t _ ha hc ba bc H B P (HH.out.grown G3.out) (HB.out.grown G3.out) HS.out HV.out HT.out HPP.out H01.out H17.out).mono ?_
  rintro q w5 ⟨xa, xc, ya, yc, rfl, ox, oy, g5⟩
  clear hxo
  obtain ⟨p0, hp0⟩ : ∃ x, P.getD 0 0 = x := ⟨_, rfl⟩
  obtain ⟨p1, hp1⟩ : ∃ x, P.getD 1 0 = x := ⟨_, rfl⟩
  obtain ⟨p2, hp2⟩ : ∃ x, P.getD 2 0 = x := ⟨_, rfl⟩
  obtain ⟨key, hkey⟩ : ∃ x, prodZ s e = x := ⟨_, rfl⟩
  obtain ⟨E2, hE2⟩ : ∃ x, prodZ e (factZ key) = x := ⟨_, rfl⟩
  obtain ⟨B2, hB2⟩ : ∃ x, offL B key = x := ⟨_, rfl⟩
  rw [hkey] at oy ⊢
  rw [hB2] at oy ⊢
  rw [hE2, hp0, hp1, hp2]
  have HP0 := Lib.hid hp0
  have HP1 := Lib.hid hp1
  have HP2 := Lib.hid hp2
  have HK := Lib.hid hkey
  have HE2 := Lib.hid hE2
  have HB2 := Lib.hid hB2
  clear hp0 hp1 hp2 hkey hE2 hB2
  have ga := grown_alloc w5 (.cells (peC p0 p1 E2 xa xc p2 ya yc).toArray 39) none
  have G5 := Lib.hid (grown_trans G3.out (grown_trans g5 ga))
  have O5 := Lib.hid (OwnI.grown O3.out (grown_trans g5 ga))
  have P5 := Lib.hid (own6_grown P3.out (grown_trans g5 ga))
  have X5 := Lib.hid (OwnI.grown ox ga)
  have Y5 := Lib.hid (OwnI.grown oy ga)
  have DO5 := Lib.hid (blkK (grown_trans g5 ga) DO3.out (by simp))
  have DM5 := Lib.hid (blkK (grown_trans g5 ga) DM3.out (by simp))
  have DP5 := Lib.hid (blkK (grown_trans g5 ga) DP3.out (by simp))
  have R5 := Lib.hid (blkK G5.out R0.out (by simp))
  have DE5 := Lib.hid (heap_alloc_new w5 (.cells (peC p0 p1 E2 xa xc p2 ya yc).toArray 39))
  have W5 := Lib.hid (show xo < w5.heap.size from (by have := g5.size; have := blkL DO3.out; omega))
  obtain ⟨xp, hxp⟩ : ∃ x, w5.heap.size = x := ⟨_, rfl⟩
  rw [hxp] at DE5 W5
  clear d0 d1 d2 e0 e1 e2 e3 ox oy g5 ga O3 P3 DO3 DM3 DP3 G3
  have d0 := blkC DM5.out 0 rfl
  have d1 := blkC DM5.out 1 rfl
  have d2 := blkC DM5.out 2 rfl
  have e0 := blkC DP5.out 0 rfl
  have e1 := blkC DP5.out 1 rfl
  have e2 := blkC DP5.out 2 rfl
  have e3 := blkC DP5.out 3 rfl
  have q0 := blkC DO5.out 0 rfl
  have q1 := blkC DO5.out 1 rfl
  have q2 := blkC DO5.out 2 rfl
  have g6 := grown_alloc (w5.alloc (.cells (peC p0 p1 E2 xa xc p2 ya yc).toArray 39)) (.cells #[.int .i64 key] 3) none
  have O6 := Lib.hid (OwnI.grown O5.out g6)
  have L6 := Lib.hid (one_int_at (w5.alloc (.cells (peC p0 p1 E2 xa xc p2 ya yc).toArray 39)) key (xp + 1) (by simp [hxp]))
  have Z6 := Lib.hid (show w2.heap.size ≤ ((w5.alloc (.cells (peC p0 p1 E2 xa xc p2 ya yc).toArray 39)).alloc (.cells #[.int .i64 key] 3)).heap.size by have := W3.out; have := W5.out; simp; omega)
  clear g6
  go_wp2_with (first | (go_at_call 52; refine (sharedOf_any _ _ _).mono ?_; rintro q w' ⟨rfl, rfl⟩; rw [HK.out]) | (go_at_call 62; refine (contains0 _ _ _ _).mono ?_; rintro q w' ⟨rfl, rfl⟩) | (at_builtin; refine app_ints rfl (.tmp 56) (.tmp 58) rfl O6.out L6.out rfl rfl Z6.out (by simp) ?_; intro v7 w7 o7 g7; refine Hid.out ?_))
  show wpList _ _ _ _ _ _
  rw [List.nil_append] at o7
  obtain ⟨a7, c7, rfl, -, -⟩ := OwnI.shape o7
  rw [show [key].length = 1 from rfl] at o7 ⊢
  have g6 := grown_alloc (w5.alloc (.cells (peC p0 p1 E2 xa xc p2 ya yc).toArray 39)) (.cells #[.int .i64 key] 3) none
  have nso : some xo ≠ (Value.slice a3 0 c3).ownBlock := fun e => by have := (BS.out xo e.symm).2; omega
  have nsp : some xp ≠ (Value.slice a3 0 c3).ownBlock := fun e => by have := (BS.out xp e.symm).2; have := W5.out; omega
  have nsr : some (w.heap.size + 1 + 1) ≠ (Value.slice a3 0 c3).ownBlock := fun e => by have := (BS.out _ e.symm).1; have := W2.out; omega
  have DO7 := Lib.hid (blkK g7 (blkK g6 DO5.out (by simp)) nso)
  have DE7 := Lib.hid (blkK g7 (blkK g6 DE5.out (by simp)) nsp)
  have R7 := Lib.hid (blkK g7 (blkK g6 R5.out (by simp)) nsr)
  have P7 := Lib.hid (World.ownsRow.kept (own6_grown P5.out g6) g7 (ap6 (own6_grown P5.out g6) O6.out))
  have X7 := Lib.hid (OwnI.row (OwnI.grown X5.out g6) g7 (fun k e => by have := (BS.out k e).2; have := blkL DO3'.out; omega))
  have Y7 := Lib.hid (OwnI.row (OwnI.grown Y5.out g6) g7 (fun k e => by have := (BS.out k e).2; have := blkL DO3'.out; omega))
  have ZW := Lib.hid (show (((w.alloc (.cells #[.int .i64 s, .slice none 0 0, .slice none 0 0] 47)).alloc (.cells #[.int .i64 e, .slice ha 9 hc, .int .i64 t, .slice ba 6 bc] 35)).alloc mx0).heap.size ≤ w2.heap.size by rw [WZ.out]; exact W2.out)
  have G7 := Lib.hid (grown_own (grown_trans G5.out g6) O6.out g7 ZW.out)
  have gx := grown_set w7 xo 1 (.slice a7 1 c7)
  have DO8 := Lib.hid (show (w7.setCell ⟨xo, 1, none⟩ (.slice a7 1 c7)).heap[xo]? = some (.cells #[.int .i64 s, .slice a7 1 c7, .slice (some ⟨pg, 0, none⟩) 0 1] 47) from heap_setCell_at DO7.out _)
  have O8 := Lib.hid (Own.apart o7 gx (ap_ne (fun k e => own_ne o7 DO7.out (by decide) e)))
  have P8 := Lib.hid (World.ownsRow.kept P7.out gx (row_ne P7.out DO7.out (by decide)))
  have DE8 := Lib.hid (blkK gx DE7.out (by have := W5.out; simp; omega))
  have R8 := Lib.hid (blkK gx R7.out (by have := W2.out; have := W3.out; simp; omega))
  have X8 := Lib.hid (OwnI.row X7.out gx (fun k e => by simp at e; have := blkL DO3'.out; omega))
  have Y8 := Lib.hid (OwnI.row Y7.out gx (fun k e => by simp at e; have := blkL DO3'.out; omega))
  have G8 := Lib.hid (grown_new G7.out gx (Nat.le_trans ZW.out W3.out))
  have Z8 := Lib.hid (show w2.heap.size ≤ ((w7.setCell ⟨xo, 1, none⟩ (.slice a7 1 c7)).alloc (.cells (peC p0 p1 E2 xa xc p2 ya yc).toArray 39)).heap.size by have := W3.out; have := (Array.getElem?_eq_some_iff.1 DO8.out).1; simp at this ⊢; omega)
  clear g6 g7 gx o7 nso nsp nsr d0 d1 d2 e0 e1 e2 e3 q0 q1 q2 O5 O6 P5 P7 X5 Y5 X7 Y7 DE5 DE7 R5 R7 G5 G7 DM5 DP5 DO5
  have q0 := blkC DO7.out 0 rfl
  have q1 := blkC DO7.out 1 rfl
  have q2 := blkC DO7.out 2 rfl
  have qf1 := blkF DO7.out 1
  have v0 := blkC DO8.out 0 rfl
  have v1 := blkC DO8.out 1 rfl
  have v2 := blkC DO8.out 2 rfl
  have c0 := blkC DE8.out 0 rfl
  have c1 := blkC DE8.out 1 rfl
  have c2 := blkC DE8.out 2 rfl
  have c3' := blkC DE8.out 3 rfl
  have c4 := blkC DE8.out 4 rfl
  have c5 := blkC DE8.out 5 rfl
  have P9 := Lib.hid (own6_grown P8.out (grown_alloc (w7.setCell ⟨xo, 1, none⟩ (.slice a7 1 c7)) (.cells (peC p0 p1 E2 xa xc p2 ya yc).toArray 39) none))
  go_wp2_with (at_builtin; refine app_peel rfl (.tmp 62) (.tmp 64) rfl P9.out rfl rfl (show ((w7.setCell ⟨xo, 1, none⟩ (.slice a7 1 c7)).alloc (.cells (peC p0 p1 E2 xa xc p2 ya yc).toArray 39)).heap[w7.heap.size]? = some _ from heap_next (by simp)) Z8.out (by omega) ?_; intro v9 w9 p9 g9; refine Hid.out ?_)
  show wpList _ _ _ _ _ _
  obtain ⟨pb, pc, rfl⟩ := row_succ p9
  rw [List.nil_append] at p9
  have p9' : w9.ownsRow w2.heap.size 39 6 (.slice (some ⟨pb, 0, none⟩) 1 pc) 1 (peC p0 p1 E2 xa xc p2 ya yc) := p9
  rw [show (0 : Nat) + 1 = 1 from rfl]
  have g8 := grown_alloc (w7.setCell ⟨xo, 1, none⟩ (.slice a7 1 c7)) (.cells (peC p0 p1 E2 xa xc p2 ya yc).toArray 39) none
  have npo : some xo ≠ (Value.slice (some ⟨pg, 0, none⟩) 0 1).ownBlock := fun e => by have := (BP.out xo e.symm).2; omega
  have npr : some (w.heap.size + 1 + 1) ≠ (Value.slice (some ⟨pg, 0, none⟩) 0 1).ownBlock := fun e => by have := (BP.out _ e.symm).1; have := W2.out; omega
  have DO9 := Lib.hid (blkK g9 (blkK g8 DO8.out (by simp)) npo)
  have R9 := Lib.hid (blkK g9 (blkK g8 R8.out (by simp)) npr)
  have O9 := Lib.hid (Own.apart (OwnI.grown O8.out g8) g9 (ap6' P9.out (OwnI.grown O8.out g8)))
  have X9 := Lib.hid (OwnI.row (OwnI.grown X8.out g8) g9 (fun k e => by have := (BP.out k e).2; have := blkL DO3'.out; omega))
  have Y9 := Lib.hid (OwnI.row (OwnI.grown Y8.out g8) g9 (fun k e => by have := (BP.out k e).2; have := blkL DO3'.out; omega))
  have G9 := Lib.hid (gRow (grown_trans G8.out g8) g9 (fun i hi e => by have := (BP.out i e.symm).1; have := Nat.lt_of_lt_of_le hi ZW.out; omega))
  have gy := grown_set w9 xo 2 (.slice (some ⟨pb, 0, none⟩) 1 pc)
  have DO10 := Lib.hid (show (w9.setCell ⟨xo, 2, none⟩ (.slice (some ⟨pb, 0, none⟩) 1 pc)).heap[xo]? = some (.cells #[.int .i64 s, .slice a7 1 c7, .slice (some ⟨pb, 0, none⟩) 1 pc] 47) from heap_setCell_at DO9.out _)
  have R10 := Lib.hid (blkK gy R9.out (by have := W2.out; have := W3.out; simp; omega))
  have O10 := Lib.hid (Own.apart O9.out gy (ap_ne (fun k e => own_ne O9.out DO9.out (by decide) e)))
  have P10 := Lib.hid (World.ownsRow.kept p9' gy (row_ne p9' DO9.out (by decide)))
  have X10 := Lib.hid (OwnI.row X9.out gy (fun k e => by simp at e; have := blkL DO3'.out; omega))
  have Y10 := Lib.hid (OwnI.row Y9.out gy (fun k e => by simp at e; have := blkL DO3'.out; omega))
  have G10 := Lib.hid (grown_new G9.out gy (Nat.le_trans ZW.out W3.out))
  have gs := (grown_trans (grown_trans (grown_set (w9.setCell ⟨xo, 2, none⟩ (.slice (some ⟨pb, 0, none⟩) 1 pc)) (w.heap.size + 1 + 1) 0 (.int .i64 s)) (grown_set _ (w.heap.size + 1 + 1) 1 (.slice a7 1 c7))) (grown_set _ (w.heap.size + 1 + 1) 2 (.slice (some ⟨pb, 0, none⟩) 1 pc)))
  have GZ := Lib.hid (grown_new (grown_trans G0.out G10.out) gs (by omega))
  have OZ := Lib.hid (OwnI.ints (OwnI.row O10.out gs (fun k e => by simp at e; have := W2.out; omega))).1
  have PZ := Lib.hid (pool_of (own6_row P10.out gs (fun k e => by simp at e; have := W2.out; omega)))
  have XZ := Lib.hid (OwnI.ints (OwnI.row X10.out gs (fun k e => by simp at e; have := W2.out; have := W3.out; have := blkL DO3'.out; omega))).1
  have YZ := Lib.hid (OwnI.ints (OwnI.row Y10.out gs (fun k e => by simp at e; have := W2.out; have := W3.out; have := blkL DO3'.out; omega))).1
  clear gs gy g8 g9 p9 p9' npo npr q0 q1 q2 qf1 v0 v1 v2 c0 c1 c2 c3' c4 c5 P8 P9 O8 O9 X8 X9 Y8 Y9 DE8 R8 R9 G8 G9 G10 O10 P10 X10 Y10 DO8 DO7
  have q0 := blkC DO9.out 0 rfl
  have q1 := blkC DO9.out 1 rfl
  have q2 := blkC DO9.out 2 rfl
  have qf2 := blkF DO9.out 2
  have v0 := blkC DO10.out 0 rfl
  have v1 := blkC DO10.out 1 rfl
  have v2 := blkC DO10.out 2 rfl
  have d0 := blkC R10.out 0 rfl
  have d1 := blkC R10.out 1 rfl
  have d2 := blkC R10.out 2 rfl
  have f0 := blkF R10.out 0
  have f1 := blkF R10.out 1
  have f2 := blkF R10.out 2
  go_wp2
  refine bodyPost_ret (v := .tuple #[.agg #[.int .i64 s, .slice a7 1 c7, .slice (some ⟨pb, 0, none⟩) 1 pc], .int .i64 0]) ?_ rfl ?_
  · (simp only [results, Try.results21]; go_simp)
  · rw [HK.out, HE2.out, HB2.out]
    exact ⟨a7, c7, pb, pc, xa, xc, ya, yc, rfl, OZ.out, by rw [HP0.out, HP1.out, HP2.out]; exact PZ.out, XZ.out, YZ.out, GZ.out⟩
end Go.Proofs.Ytedpkhboepahgaa
