/- Tickets drawn. -/
import Derived.Test.YtppkbmlbggokkaaDoorTick
import Derived.WalkKit
import Derived.Lib.Hide
import Derived.Deep.QuietTactic
import Derived.BigQuiet
import Derived.RegionTactic
namespace Go.Proofs.YtppkbmlbggokkaaDoor
open Go.RowKit
theorem publicOfS_any (s : Int) (w : World) : Calls Tryd.prog 42 #[.int .i64 s] w fun e w' => e = .returned (.int .i64 (prodZ s 5)) ∧ w = w' := by
  cases h1 : elB s
  · have H := Lib.hid (prodZ_no (b := 5) (.inl h1))
    have K := Lib.hid h1
    clear h1
    go_enter Tryd.func42, Tryd.ntmps42
    go_wp2_with (go_at_call 49; refine (l1Is_any _ _).mono ?_; rintro e w' ⟨rfl, rfl⟩; rw [K.out])
    go_ret
    exact ⟨by rw [H.out]; rfl, rfl⟩
  · have b := elB_iff.1 h1
    have K := Lib.hid h1
    clear h1
    go_enter Tryd.func42, Tryd.ntmps42
    go_wp2_with (first | (go_at_call 49; refine (l1Is_any _ _).mono ?_; rintro e w' ⟨rfl, rfl⟩; rw [K.out]) | (go_at_call 50; refine (l1Times_any s 5 _ b (by omega)).mono ?_; rintro e w' ⟨rfl, rfl⟩))
    go_ret
    exact ⟨rfl, rfl⟩
theorem tm_near {s n : Int} (hn : isSerial n) : isSerial (tmN s n) ∧ isNear (tmG s n) := by
  unfold isSerial isNear at *
  unfold tmN tmG
  split
  · refine ⟨hn, ?_⟩
    unfold prodZ
    split <;> omega
  · omega
theorem prod_near (s : Int) : isNear (prodZ s 5) := by
  unfold prodZ isNear
  split <;> omega
def TickPost (rb c : Nat) (w : World) (e : Ending) (w' : World) : Prop :=
  ∃ p s g : Int, isNear p ∧ isSerial s ∧ isNear g ∧ e = .returned (.tuple #[.int .i64 p, .agg #[.int .i64 s, .int .i64 g]]) ∧ w.grownBy w' (some rb) ∧ Rdr w' rb c
set_option maxHeartbeats 1000000 in
theorem l92Ticket_any (rb c : Nat) (w : World) (hr : Rdr w rb c) (hc : c ≤ 800000) :
    Calls Tryd.prog 24 #[.pointer (some ⟨rb, 0, none⟩)] w (TickPost rb (c + 10) w) := by
  have hlt := hr.lt
  have r0 := hr.grown (grown_alloc w (.cells #[.int .i64 0, .int .i64 0] 25) none)
  go_enter Tryd.func24, Tryd.ntmps24
  go_wp2_with fail
  refine (l91Good_any _ _ _ r0 (by omega)).mono ?_
  rintro e w1 ⟨s, rfl, hs, g1, r1⟩
  go_wp2_with fail
  refine (l92Serial_any _ _ _ r1 (by omega)).mono ?_
  rintro e w2 ⟨n, rfl, hn, g2, r2⟩
  obtain ⟨nn, ng⟩ := tm_near (s := s) hn
  go_wp2_with fail
  refine (ticketMakeS_any _ _ _).mono ?_
  rintro e w3 ⟨rfl, g3⟩
  have r3 := (r2.grown g3).grown (grown_alloc w3 (.cells #[.int .i64 (tmN s n), .int .i64 (tmG s n)] 25) none)
  go_wp2_with fail
  refine (publicOfS_any _ _).mono ?_
  rintro e w4 ⟨rfl, rfl⟩
  go_wp2_with fail
  refine (pick_any _ 8 _ _ r3 (by omega) (by omega) (by omega)).mono ?_
  rintro e w5 ⟨v, rfl, k5, g5, r5⟩
  have z1 := sizeN g1
  have z2 := g2.size
  have z3 := g3.size
  have z5 := sizeN g5
  have hB := blkN g5 (by simp; omega)
  have hR := blkK g5 (blkA (blkK g3 (blkK g2 (blkN g1 (by simp; omega)) (by simp; omega)) (by simp))) (by simp; omega)
  have gg : w.grownBy w5 (some rb) := grown_trans (grown_trans (grown_trans (grown_trans (grown_alloc _ _ _) g1) g2) (grown_some g3)) (grown_trans (grown_alloc _ _ _) g5)
  have np := prod_near s
  have hnb : w3.heap.size ≠ w.heap.size := by omega
  clear g1 g2 g3 g5 r0 r1 r2 r3 hr
  have b0 : w5.cell? ⟨w3.heap.size, 0, none⟩ = some (.int .i64 (tmN s n)) := blkC hB 0 rfl
  have b1 : w5.cell? ⟨w3.heap.size, 1, none⟩ = some (.int .i64 (tmG s n)) := blkC hB 1 rfl
  have bf0 := blkF hB 0
  have bf1 := blkF hB 1
  have d0 : w5.cell? ⟨w.heap.size, 0, none⟩ = some (.int .i64 0) := blkC hR 0 rfl
  have d1 : w5.cell? ⟨w.heap.size, 1, none⟩ = some (.int .i64 0) := blkC hR 1 rfl
  have df0 := blkF hR 0
  have df1 := blkF hR 1
  have hl5 := blkL hB
  by_cases e3 : 3 ≤ v
  · have t0 : ((v : Int) == 0) = false := by simp; omega
    have t1 : ((v : Int) == 1) = false := by simp; omega
    have t2 : ((v : Int) == 2) = false := by simp; omega
    go_wp2_with fail
    go_region
    go_wp2
    refine bodyPost_ret (v := .tuple #[.int .i64 (prodZ s 5), .agg #[.int .i64 (tmN s n), .int .i64 (tmG s n)]]) ?_ rfl ⟨_, _, _, np, nn, ng, rfl, ?_, ?_⟩
    · simp only [results, Tryd.results24]
      go_simp
    · exact (by (repeat (with_reducible (first | refine gDrew ?_ | refine gDrewN ?_ _ | refine gSet ?_ (by simp; try omega) _ | refine gAlloc ?_ _))); exact gg)
    · exact (by (repeat (with_reducible (first | refine Rdr.drew ?_ | refine Rdr.drewN ?_ _ | refine Rdr.set ?_ (by simp; try omega) _ | refine Rdr.al ?_ _))); exact Rdr.mono r5 (by omega))
  · have ev : v = 0 ∨ v = 1 ∨ v = 2 := by omega
    rcases ev with rfl | rfl | rfl
    · go_wp2_with fail
      refine (l91Is_any _ _ _ r5 (by omega)).mono ?_
      rintro e w6 ⟨u, rfl, hu, g6, r6⟩
      replace hB := blkK g6 hB (by simp; omega)
      replace hR := blkK g6 hR (by simp; omega)
      clear b0 b1 bf0 bf1 d0 d1 df0 df1
      have b0 : w6.cell? ⟨w3.heap.size, 0, none⟩ = some (.int .i64 (tmN s n)) := blkC hB 0 rfl
      have b1 : w6.cell? ⟨w3.heap.size, 1, none⟩ = some (.int .i64 (tmG s n)) := blkC hB 1 rfl
      have bf0 := blkF hB 0
      have bf1 := blkF hB 1
      have d0 : w6.cell? ⟨w.heap.size, 0, none⟩ = some (.int .i64 0) := blkC hR 0 rfl
      have d1 : w6.cell? ⟨w.heap.size, 1, none⟩ = some (.int .i64 0) := blkC hR 1 rfl
      have df0 := blkF hR 0
      have df1 := blkF hR 1
      go_wp2_with fail
      go_region
      go_wp2
      refine bodyPost_ret (v := .tuple #[.int .i64 (prodZ s 5), .agg #[.int .i64 (tmN s n), .int .i64 (u)]]) ?_ rfl ⟨_, _, _, np, nn, hu, rfl, ?_, ?_⟩
      · simp only [results, Tryd.results24]
        go_simp
      · exact (by (repeat (with_reducible (first | refine gDrew ?_ | refine gDrewN ?_ _ | refine gSet ?_ (by simp; try omega) _ | refine gAlloc ?_ _))); exact (grown_trans gg g6))
      · exact (by (repeat (with_reducible (first | refine Rdr.drew ?_ | refine Rdr.drewN ?_ _ | refine Rdr.set ?_ (by simp; try omega) _ | refine Rdr.al ?_ _))); exact Rdr.mono r6 (by omega))
    · go_wp2_with fail
      refine (l92Serial_any _ _ _ r5 (by omega)).mono ?_
      rintro e w6 ⟨u, rfl, hu, g6, r6⟩
      replace hB := blkK g6 hB (by simp; omega)
      replace hR := blkK g6 hR (by simp; omega)
      clear b0 b1 bf0 bf1 d0 d1 df0 df1
      have b0 : w6.cell? ⟨w3.heap.size, 0, none⟩ = some (.int .i64 (tmN s n)) := blkC hB 0 rfl
      have b1 : w6.cell? ⟨w3.heap.size, 1, none⟩ = some (.int .i64 (tmG s n)) := blkC hB 1 rfl
      have bf0 := blkF hB 0
      have bf1 := blkF hB 1
      have d0 : w6.cell? ⟨w.heap.size, 0, none⟩ = some (.int .i64 0) := blkC hR 0 rfl
      have d1 : w6.cell? ⟨w.heap.size, 1, none⟩ = some (.int .i64 0) := blkC hR 1 rfl
      have df0 := blkF hR 0
      have df1 := blkF hR 1
      go_wp2_with fail
      go_region
      go_wp2
      refine bodyPost_ret (v := .tuple #[.int .i64 (prodZ s 5), .agg #[.int .i64 (u), .int .i64 (tmG s n)]]) ?_ rfl ⟨_, _, _, np, hu, ng, rfl, ?_, ?_⟩
      · simp only [results, Tryd.results24]
        go_simp
      · exact (by (repeat (with_reducible (first | refine gDrew ?_ | refine gDrewN ?_ _ | refine gSet ?_ (by simp; try omega) _ | refine gAlloc ?_ _))); exact (grown_trans gg g6))
      · exact (by (repeat (with_reducible (first | refine Rdr.drew ?_ | refine Rdr.drewN ?_ _ | refine Rdr.set ?_ (by simp; try omega) _ | refine Rdr.al ?_ _))); exact Rdr.mono r6 (by omega))
    · go_wp2_with fail
      refine (l91Is_any _ _ _ r5 (by omega)).mono ?_
      rintro e w6 ⟨u, rfl, hu, g6, r6⟩
      replace hB := blkK g6 hB (by simp; omega)
      replace hR := blkK g6 hR (by simp; omega)
      clear b0 b1 bf0 bf1 d0 d1 df0 df1
      have b0 : w6.cell? ⟨w3.heap.size, 0, none⟩ = some (.int .i64 (tmN s n)) := blkC hB 0 rfl
      have b1 : w6.cell? ⟨w3.heap.size, 1, none⟩ = some (.int .i64 (tmG s n)) := blkC hB 1 rfl
      have bf0 := blkF hB 0
      have bf1 := blkF hB 1
      have d0 : w6.cell? ⟨w.heap.size, 0, none⟩ = some (.int .i64 0) := blkC hR 0 rfl
      have d1 : w6.cell? ⟨w.heap.size, 1, none⟩ = some (.int .i64 0) := blkC hR 1 rfl
      have df0 := blkF hR 0
      have df1 := blkF hR 1
      go_wp2_with fail
      go_region
      go_wp2
      refine bodyPost_ret (v := .tuple #[.int .i64 (u), .agg #[.int .i64 (tmN s n), .int .i64 (tmG s n)]]) ?_ rfl ⟨_, _, _, hu, nn, ng, rfl, ?_, ?_⟩
      · simp only [results, Tryd.results24]
        go_simp
      · exact (by (repeat (with_reducible (first | refine gDrew ?_ | refine gDrewN ?_ _ | refine gSet ?_ (by simp; try omega) _ | refine gAlloc ?_ _))); exact (grown_trans gg g6))
      · exact (by (repeat (with_reducible (first | refine Rdr.drew ?_ | refine Rdr.drewN ?_ _ | refine Rdr.set ?_ (by simp; try omega) _ | refine Rdr.al ?_ _))); exact Rdr.mono r6 (by omega))
end Go.Proofs.YtppkbmlbggokkaaDoor
