/- Drawn flows. -/
import Derived.Test.YtolifggjblfobaaOpen
import Derived.Test.YtolifggjblfobaaViewS
import Derived.WalkKit
import Derived.Lib.Hide
import Derived.Deep.QuietTactic
import Derived.BigQuiet
namespace Go.Proofs.Ytolifggjblfobaa
open Go.RowKit
def SmallF (fs : List F3) : Prop := ∀ i, i < fs.length → 0 ≤ (fs.getD i f0).2.2 ∧ (fs.getD i f0).2.2 ≤ 100
theorem SmallF.wf {fs : List F3} (h : SmallF fs) : Wf fs := fun i hi => by have := h i hi; omega
theorem smallF_push {fs : List F3} (h : SmallF fs) {x y z : Int} (h0 : 0 ≤ z) (h1 : z ≤ 100) : SmallF (fs ++ [(x, y, z)]) := by
  intro i hi
  by_cases e : i < fs.length
  · rw [List.getD_eq_getElem?_getD, List.getElem?_append_left e, ← List.getD_eq_getElem?_getD]
    exact h i e
  · simp at hi
    have : i = fs.length := by omega
    subst this
    rw [List.getD_eq_getElem?_getD, List.getElem?_append_right (Nat.le_refl _)]
    simp; omega
theorem one_flow_at (w : World) (a b c : Int) (n : Nat) (h : w.heap.size = n) : FlowsAt (w.alloc (.cells #[.int .i64 a, .int .i64 b, .int .i64 c] 28)) (some ⟨n, 0, none⟩) 1 1 [(a, b, c)] := h ▸ one_flow w a b c
def DrawFPost (rb c : Nat) (w : World) (e : Ending) (w' : World) : Prop :=
  ∃ fs v, e = .returned v ∧ fs.length ≤ 17 ∧ SmallF fs ∧ OwnF w.heap.size w' v fs ∧ w.grownBy w' (some rb) ∧ Rdr w' rb c
set_option maxHeartbeats 4000000 in
theorem l92Flows_any (rb c : Nat) (w : World) (hr : Rdr w rb c) (hc : c ≤ 800000) :
    Calls Try.prog 37 #[.pointer (some ⟨rb, 0, none⟩)] w (DrawFPost rb (c + 100) w) := by
  have hlt := hr.lt
  have r0 := hr.al (.cells #[] 28)
  have O0 := Lib.hid (ownF_nil w.heap.size w (Nat.le_refl _))
  go_enter Try.func37, Try.ntmps37
  go_wp2_with fail
  refine (pick_any _ 9 c _ r0 (by omega) (by omega) (by omega)).mono ?_
  rintro e w1 ⟨v1, rfl, k1, g1, r1⟩
  have O1 := Lib.hid (OwnF.row O0.out g1 (fun k e => by simp at e; omega))
  have G1 := Lib.hid (grown_trans (grown_alloc w (.cells #[] 28) (some rb)) g1)
  clear O0 r0 hr g1
  go_wp2_with fail
  refine (pick_any _ 20 (c+1) _ r1 (by omega) (by omega) (by omega)).mono ?_
  rintro e w2 ⟨v2, rfl, k2, g2, r2⟩
  have O2 := Lib.hid (OwnF.row O1.out g2 (fun k e => by simp at e; omega))
  have G2 := Lib.hid (grown_trans G1.out g2)
  clear O1 G1 g2 r1
  by_cases h0 : v2 = 0
  · subst h0
    go_wp2_with fail
    refine (pick_any _ 2 (c+2) _ r2 (by omega) (by omega) (by omega)).mono ?_
    rintro e w3 ⟨v3, rfl, k3, g3, r3⟩
    have O3 := Lib.hid (OwnF.row O2.out g3 (fun k e => by simp at e; omega))
    have G3 := Lib.hid (grown_trans G2.out g3)
    have R3 := Lib.hid r3
    clear O2 G2 g3 r2 r3
    obtain ⟨N, hN⟩ : ∃ N, v3 + 16 = N := ⟨_, rfl⟩
    have hN17 : N ≤ 17 := by omega
    have R3' := Lib.hid (R3.out.mono (show _ ≤ c + 3 by omega))
    have hN' : (16 : Int) + (v3 : Int) = (N : Int) := by omega
    clear R3
    go_wp2_with fail
    go_loopw [3, 5, 6] (fun v i p wr => ∃ k : Nat, ∃ zs : List F3, k ≤ N ∧ i = .int .i64 k ∧ zs.length = k ∧ Hid (SmallF zs) ∧ Hid (OwnF w.heap.size wr v zs) ∧ Hid (w.grownBy wr (some rb)) ∧ Hid (Rdr wr rb (c + 3 + k * 5))) (fun _ i _ _ => (N) - (intOf i).toNat)
    case atStart => exact ⟨0, [], by omega, rfl, rfl, Lib.hid (fun i hi => by simp at hi), O3, G3, R3'⟩
    case round =>
      clear O3 G3 R3'
      obtain ⟨k, zs, hk, rfl, hzl, hsm, ho, hg, hr⟩ := hrel
      have HZ := Lib.hid hzl
      clear hzl
      by_cases hlt : k < N
      · have hlt2 : (k : Int) < (N : Int) := by omega
        go_wp2_with fail
        refine (pick_any _ 5 _ _ hr.out (by omega) (by omega) (by omega)).mono ?_
        rintro e w2 ⟨v2, rfl, k2, g2, r2⟩
        go_wp2_with fail
        refine (pick_any _ 5 _ _ r2 (by omega) (by omega) (by omega)).mono ?_
        rintro e w3 ⟨v3, rfl, k3, g3, r3⟩
        go_wp2_with fail
        refine (pick_any _ 5 _ _ r3 (by omega) (by omega) (by omega)).mono ?_
        rintro e w4 ⟨v4, rfl, k4, g4, r4⟩
        have GG := grown_trans g2 (grown_trans g3 g4)
        have O4 := Lib.hid (OwnF.row ho.out GG (fun b e => by simp at e; omega))
        have G4 := Lib.hid (grown_trans hg.out GG)
        have R4 := Lib.hid r4
        have s4 := G4.out.size
        have NE : u3.ownBlock ≠ some w4.heap.size := fun e => by have := (O4.out.bound _ e).2; omega
        have hrb4 := r4.lt
        clear g2 g3 g4 r2 r3 r4 GG ho hg hr
        go_wp2_with fail
        have R5 := R4.out.al (.cells #[.int .i64 ((v2 : Int) - 1), .int .i64 ((v3 : Int) - 1), .int .i64 ((v4 : Int) * 7)] 28)
        refine (pick_any _ 40 _ _ R5 (by omega) (by omega) (by omega)).mono ?_
        rintro e w6 ⟨v6, rfl, k6, g6, r6⟩
        have DB := blkN g6 (show some w4.heap.size ≠ some rb by simp; omega)
        have O6 := Lib.hid (OwnF.row (OwnF.grown O4.out (grown_alloc _ _ _)) g6 (fun b e => by simp at e; omega))
        have G6 := Lib.hid (grown_trans (gAlloc G4.out _) g6)
        have R6 := Lib.hid r6
        have HDB := Lib.hid DB
        clear R5 g6 r6 DB O4 G4 R4
        by_cases h6 : v6 = 0
        · subst h6
          go_wp2_with fail
          refine (pick_any _ 2 _ _ R6.out (by omega) (by omega) (by omega)).mono ?_
          rintro e w7 ⟨v7, rfl, k7, g7, r7⟩
          have DB7 := blkK g7 HDB.out (show some w4.heap.size ≠ some rb by simp; omega)
          have O7 := OwnF.row O6.out g7 (fun b e => by simp at e; omega)
          have G7 := grown_trans G6.out g7
          have O8 := Lib.hid (OwnF.apart O7 (grown_set w7 w4.heap.size 0 (.int .i64 ((v7 : Int) * 10 - 2))) (.inr NE))
          have G8 := Lib.hid (gSet G7 (p := ⟨w4.heap.size, 0, none⟩) (by show w.heap.size ≤ w4.heap.size; omega) (.int .i64 ((v7 : Int) * 10 - 2)))
          have R8 := Lib.hid (r7.set (p := ⟨w4.heap.size, 0, none⟩) (by show rb < w4.heap.size; omega) (.int .i64 ((v7 : Int) * 10 - 2)))
          have d0 := blkC DB7 0 rfl
          have d1 := blkC DB7 1 rfl
          have d2 := blkC DB7 2 rfl
          have e0 := blkF DB7 0
          clear g7 r7 O6 G6 R6 O7 G7 DB7
          go_wp2_with (at_builtin; refine app_flows rfl (.tmp 39) (.tmp 41) rfl (OwnF.grown O8.out (by (repeat (with_reducible (first | refine gDrew ?_ | refine gDrewN ?_ _ | refine gAlloc ?_ _))); exact grown_refl _ _)) rfl rfl (one_flow_at _ _ _ _ _ (by first | rfl | simp)) (grown_trans G8.out (by (repeat (with_reducible (first | refine gDrew ?_ | refine gDrewN ?_ _ | refine gAlloc ?_ _))); exact grown_refl _ _)).size (by rw [HZ.out]; simp; omega) ?_; intro v9 w9 o9 g9 s9; refine Hid.out ?_)
          show wpList _ _ _ _ _ _
          have G9 := Lib.hid (grownF_own (grown_trans G8.out (by (repeat (with_reducible (first | refine gDrew ?_ | refine gDrewN ?_ _ | refine gAlloc ?_ _))); exact grown_refl _ _)) (OwnF.grown O8.out (by (repeat (with_reducible (first | refine gDrew ?_ | refine gDrewN ?_ _ | refine gAlloc ?_ _))); exact grown_refl _ _)) g9 (Nat.le_refl _))
          have R9 := Lib.hid (Rdr.row (R8.out.al _) g9 (fun b hb e => by have := ((O8.out).bound b e.symm).1; omega))
          have O9 := Lib.hid o9
          have S9 := Lib.hid (smallF_push hsm.out (x := (v7 : Int) * 10 - 2) (y := (v3 : Int) - 1) (z := (v4 : Int) * 7) (by omega) (by omega))
          clear o9 g9 s9 O8 G8 R8
          go_wp2
          go_roundw
          case rel => exact ⟨k + 1, _, by omega, by go_num, by simp [HZ.out], S9, O9, G9, Lib.hid (R9.out.mono (by omega))⟩
          case measure => simp [intOf]; omega
        · have h6' : ((v6 : Int) == 0) = false := by simp; omega
          have d0 := blkC HDB.out 0 rfl
          have d1 := blkC HDB.out 1 rfl
          have d2 := blkC HDB.out 2 rfl
          go_wp2_with (at_builtin; refine app_flows rfl (.tmp 39) (.tmp 41) rfl (OwnF.grown O6.out (by (repeat (with_reducible (first | refine gDrew ?_ | refine gDrewN ?_ _ | refine gAlloc ?_ _))); exact grown_refl _ _)) rfl rfl (one_flow_at _ _ _ _ _ (by first | rfl | simp)) (grown_trans G6.out (by (repeat (with_reducible (first | refine gDrew ?_ | refine gDrewN ?_ _ | refine gAlloc ?_ _))); exact grown_refl _ _)).size (by rw [HZ.out]; simp; omega) ?_; intro v9 w9 o9 g9 s9; refine Hid.out ?_)
          show wpList _ _ _ _ _ _
          have G9 := Lib.hid (grownF_own (grown_trans G6.out (by (repeat (with_reducible (first | refine gDrew ?_ | refine gDrewN ?_ _ | refine gAlloc ?_ _))); exact grown_refl _ _)) (OwnF.grown O6.out (by (repeat (with_reducible (first | refine gDrew ?_ | refine gDrewN ?_ _ | refine gAlloc ?_ _))); exact grown_refl _ _)) g9 (Nat.le_refl _))
          have R9 := Lib.hid (Rdr.row (R6.out.al _) g9 (fun b hb e => by have := ((O6.out).bound b e.symm).1; omega))
          have O9 := Lib.hid o9
          have S9 := Lib.hid (smallF_push hsm.out (x := (v2 : Int) - 1) (y := (v3 : Int) - 1) (z := (v4 : Int) * 7) (by omega) (by omega))
          clear o9 g9 s9 O6 G6 R6
          go_wp2
          go_roundw
          case rel => exact ⟨k + 1, _, by omega, by go_num, by simp [HZ.out], S9, O9, G9, Lib.hid (R9.out.mono (by omega))⟩
          case measure => simp [intOf]; omega
      · go_wp2_with fail
        go_ret
        exact ⟨zs, _, rfl, by rw [HZ.out]; omega, hsm.out, ho.out, hg.out, hr.out.mono (by omega)⟩
  · have h0' : ((v2 : Int) == 0) = false := by simp; omega
    have R2 := Lib.hid (r2.mono (show _ ≤ c + 3 by omega))
    have hv1 : v1 < 9 := by omega
    clear r2
    go_wp2_with fail
    go_loopw [3, 5, 6] (fun v i p wr => ∃ k : Nat, ∃ zs : List F3, k ≤ v1 ∧ i = .int .i64 k ∧ zs.length = k ∧ Hid (SmallF zs) ∧ Hid (OwnF w.heap.size wr v zs) ∧ Hid (w.grownBy wr (some rb)) ∧ Hid (Rdr wr rb (c + 3 + k * 5))) (fun _ i _ _ => (v1) - (intOf i).toNat)
    case atStart => exact ⟨0, [], by omega, rfl, rfl, Lib.hid (fun i hi => by simp at hi), O2, G2, R2⟩
    case round =>
      clear O2 G2 R2
      obtain ⟨k, zs, hk, rfl, hzl, hsm, ho, hg, hr⟩ := hrel
      have HZ := Lib.hid hzl
      clear hzl
      by_cases hlt : k < v1
      · have hlt2 : (k : Int) < (v1 : Int) := by omega
        go_wp2_with fail
        refine (pick_any _ 5 _ _ hr.out (by omega) (by omega) (by omega)).mono ?_
        rintro e w2 ⟨v2, rfl, k2, g2, r2⟩
        go_wp2_with fail
        refine (pick_any _ 5 _ _ r2 (by omega) (by omega) (by omega)).mono ?_
        rintro e w3 ⟨v3, rfl, k3, g3, r3⟩
        go_wp2_with fail
        refine (pick_any _ 5 _ _ r3 (by omega) (by omega) (by omega)).mono ?_
        rintro e w4 ⟨v4, rfl, k4, g4, r4⟩
        have GG := grown_trans g2 (grown_trans g3 g4)
        have O4 := Lib.hid (OwnF.row ho.out GG (fun b e => by simp at e; omega))
        have G4 := Lib.hid (grown_trans hg.out GG)
        have R4 := Lib.hid r4
        have s4 := G4.out.size
        have NE : u3.ownBlock ≠ some w4.heap.size := fun e => by have := (O4.out.bound _ e).2; omega
        have hrb4 := r4.lt
        clear g2 g3 g4 r2 r3 r4 GG ho hg hr
        go_wp2_with fail
        have R5 := R4.out.al (.cells #[.int .i64 ((v2 : Int) - 1), .int .i64 ((v3 : Int) - 1), .int .i64 ((v4 : Int) * 7)] 28)
        refine (pick_any _ 40 _ _ R5 (by omega) (by omega) (by omega)).mono ?_
        rintro e w6 ⟨v6, rfl, k6, g6, r6⟩
        have DB := blkN g6 (show some w4.heap.size ≠ some rb by simp; omega)
        have O6 := Lib.hid (OwnF.row (OwnF.grown O4.out (grown_alloc _ _ _)) g6 (fun b e => by simp at e; omega))
        have G6 := Lib.hid (grown_trans (gAlloc G4.out _) g6)
        have R6 := Lib.hid r6
        have HDB := Lib.hid DB
        clear R5 g6 r6 DB O4 G4 R4
        by_cases h6 : v6 = 0
        · subst h6
          go_wp2_with fail
          refine (pick_any _ 2 _ _ R6.out (by omega) (by omega) (by omega)).mono ?_
          rintro e w7 ⟨v7, rfl, k7, g7, r7⟩
          have DB7 := blkK g7 HDB.out (show some w4.heap.size ≠ some rb by simp; omega)
          have O7 := OwnF.row O6.out g7 (fun b e => by simp at e; omega)
          have G7 := grown_trans G6.out g7
          have O8 := Lib.hid (OwnF.apart O7 (grown_set w7 w4.heap.size 0 (.int .i64 ((v7 : Int) * 10 - 2))) (.inr NE))
          have G8 := Lib.hid (gSet G7 (p := ⟨w4.heap.size, 0, none⟩) (by show w.heap.size ≤ w4.heap.size; omega) (.int .i64 ((v7 : Int) * 10 - 2)))
          have R8 := Lib.hid (r7.set (p := ⟨w4.heap.size, 0, none⟩) (by show rb < w4.heap.size; omega) (.int .i64 ((v7 : Int) * 10 - 2)))
          have d0 := blkC DB7 0 rfl
          have d1 := blkC DB7 1 rfl
          have d2 := blkC DB7 2 rfl
          have e0 := blkF DB7 0
          clear g7 r7 O6 G6 R6 O7 G7 DB7
          go_wp2_with (at_builtin; refine app_flows rfl (.tmp 39) (.tmp 41) rfl (OwnF.grown O8.out (by (repeat (with_reducible (first | refine gDrew ?_ | refine gDrewN ?_ _ | refine gAlloc ?_ _))); exact grown_refl _ _)) rfl rfl (one_flow_at _ _ _ _ _ (by first | rfl | simp)) (grown_trans G8.out (by (repeat (with_reducible (first | refine gDrew ?_ | refine gDrewN ?_ _ | refine gAlloc ?_ _))); exact grown_refl _ _)).size (by rw [HZ.out]; simp; omega) ?_; intro v9 w9 o9 g9 s9; refine Hid.out ?_)
          show wpList _ _ _ _ _ _
          have G9 := Lib.hid (grownF_own (grown_trans G8.out (by (repeat (with_reducible (first | refine gDrew ?_ | refine gDrewN ?_ _ | refine gAlloc ?_ _))); exact grown_refl _ _)) (OwnF.grown O8.out (by (repeat (with_reducible (first | refine gDrew ?_ | refine gDrewN ?_ _ | refine gAlloc ?_ _))); exact grown_refl _ _)) g9 (Nat.le_refl _))
          have R9 := Lib.hid (Rdr.row (R8.out.al _) g9 (fun b hb e => by have := ((O8.out).bound b e.symm).1; omega))
          have O9 := Lib.hid o9
          have S9 := Lib.hid (smallF_push hsm.out (x := (v7 : Int) * 10 - 2) (y := (v3 : Int) - 1) (z := (v4 : Int) * 7) (by omega) (by omega))
          clear o9 g9 s9 O8 G8 R8
          go_wp2
          go_roundw
          case rel => exact ⟨k + 1, _, by omega, by go_num, by simp [HZ.out], S9, O9, G9, Lib.hid (R9.out.mono (by omega))⟩
          case measure => simp [intOf]; omega
        · have h6' : ((v6 : Int) == 0) = false := by simp; omega
          have d0 := blkC HDB.out 0 rfl
          have d1 := blkC HDB.out 1 rfl
          have d2 := blkC HDB.out 2 rfl
          go_wp2_with (at_builtin; refine app_flows rfl (.tmp 39) (.tmp 41) rfl (OwnF.grown O6.out (by (repeat (with_reducible (first | refine gDrew ?_ | refine gDrewN ?_ _ | refine gAlloc ?_ _))); exact grown_refl _ _)) rfl rfl (one_flow_at _ _ _ _ _ (by first | rfl | simp)) (grown_trans G6.out (by (repeat (with_reducible (first | refine gDrew ?_ | refine gDrewN ?_ _ | refine gAlloc ?_ _))); exact grown_refl _ _)).size (by rw [HZ.out]; simp; omega) ?_; intro v9 w9 o9 g9 s9; refine Hid.out ?_)
          show wpList _ _ _ _ _ _
          have G9 := Lib.hid (grownF_own (grown_trans G6.out (by (repeat (with_reducible (first | refine gDrew ?_ | refine gDrewN ?_ _ | refine gAlloc ?_ _))); exact grown_refl _ _)) (OwnF.grown O6.out (by (repeat (with_reducible (first | refine gDrew ?_ | refine gDrewN ?_ _ | refine gAlloc ?_ _))); exact grown_refl _ _)) g9 (Nat.le_refl _))
          have R9 := Lib.hid (Rdr.row (R6.out.al _) g9 (fun b hb e => by have := ((O6.out).bound b e.symm).1; omega))
          have O9 := Lib.hid o9
          have S9 := Lib.hid (smallF_push hsm.out (x := (v2 : Int) - 1) (y := (v3 : Int) - 1) (z := (v4 : Int) * 7) (by omega) (by omega))
          clear o9 g9 s9 O6 G6 R6
          go_wp2
          go_roundw
          case rel => exact ⟨k + 1, _, by omega, by go_num, by simp [HZ.out], S9, O9, G9, Lib.hid (R9.out.mono (by omega))⟩
          case measure => simp [intOf]; omega
      · go_wp2_with fail
        go_ret
        exact ⟨zs, _, rfl, by rw [HZ.out]; omega, hsm.out, ho.out, hg.out, hr.out.mono (by omega)⟩
end Go.Proofs.Ytolifggjblfobaa
