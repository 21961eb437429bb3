/- Drawn: what ReplyFill takes. -/
import Derived.Test.YtedpkhboepahgaaBlkI
import Derived.Test.YtedpkhboepahgaaPath
import Derived.Test.YtedpkhboepahgaaDrawRM
import Derived.Test.YtedpkhboepahgaaDrawL
import Derived.WalkKit
import Derived.Lib.Hide
import Derived.Deep.QuietTactic
import Derived.BigQuiet
import Derived.OwnWalk
import Derived.Deep.RegionHeld3
namespace Go.Proofs.Ytedpkhboepahgaa
open Go.RowKit
def DrawRFPost (w : World) (e : Ending) (w' : World) : Prop :=
  ∃ f el t : Int, ∃ H l : List Int, ∃ ha hn hc la ln lc, e = .returned (.tuple #[.agg #[.int .i64 f, .int .i64 el, .slice ha hn hc, .int .i64 t], .slice la ln lc]) ∧ IntsAt w' ha hn hc H ∧ IntsAt w' la ln lc l ∧ hn ≤ 1000 ∧ w.grownBy w' none
theorem rmR_len (s : Int) (ps ns : List Int) (r : Int) : (rmR s ps ns r).1.2.2.1.length ≤ 9 := by
  by_cases h : MkP s ps ns r []
  · rw [rmR_yes h]
    exact Nat.le_of_eq (hdrL_ok (mkP_ok h).1 h.2.2.2.1 (mkP_ok h).2 h.2.2.2.2).2
  · rw [rmR_no h]; simp
theorem own_form {B : Nat} {w : World} {ao : Option Addr} {n c : Nat} {xs : List Int} (h : OwnI B w (.slice ao n c) xs) : (ao = none ∧ n = 0 ∧ c = 0) ∨ ∃ g, ao = some ⟨g, 0, none⟩ := by
  rcases h.2 with ⟨e, hn⟩ | ⟨g, cap, cur, e, hb, hg, hnc, hcm, hcs, htake⟩
  · simp at e; exact .inl e
  · simp at e; exact .inr ⟨g, e.1⟩
set_option maxRecDepth 8000 in
set_option maxHeartbeats 2000000 in
theorem drawReplyFill_any (w : World) (ao : Option Addr) (n cap : Nat) (hco : CodeAt w ao n cap) :
    Calls Try.prog 27 #[.slice ao n cap] w (DrawRFPost w) := by
  have G0 := Lib.hid (grown_alloc w bk0 none)
  have D0 := Lib.hid (show (w.alloc bk0).heap[w.heap.size]? = some bk0 from heap_alloc_new w _)
  have C0 := Lib.hid (hco.grown G0.out)
  clear hco
  go_enter Try.func27, Try.ntmps27
  go_wp2_with fail
  refine (l6Open_any _ _ _ _ C0.out).mono ?_
  rintro q w1 ⟨rb, rfl, z1, g1, r1⟩
  have Z1 := Lib.hid (show w.heap.size + 1 ≤ rb by simpa using z1)
  have D1 := Lib.hid (blkK g1 D0.out (by simp))
  have G1 := Lib.hid (grown_trans G0.out g1)
  clear z1 g1
  go_wp2_with fail
  refine (l91Path_any rb _ _ r1 (by omega)).mono ?_
  rintro q w3 ⟨ps, ns, ao3, n3, cap3, bo3, n3', cap3', rfl, hp, hn, ha, hb, g3, r3⟩
  have G3 := Lib.hid (grown_new G1.out g3 (by have := Z1.out; omega))
  have D3 := Lib.hid (blkK g3 D1.out (by have := Z1.out; simp; omega))
  have P3 := Lib.hid hp
  have N3 := Lib.hid hn
  have HA := Lib.hid ha
  have HB := Lib.hid hb
  have R3 := Lib.hid r3
  clear g3 r1 r3 hp hn ha hb
  go_wp2_with fail
  refine (l91Good_any rb _ _ R3.out (by omega)).mono ?_
  rintro q w4 ⟨s, rfl, -, g4, r4⟩
  go_wp2_with fail
  refine (pick_any _ 8 _ _ r4 (by omega) (by omega) (by omega)).mono ?_
  rintro e w5 ⟨v5, rfl, k5, g5, r5⟩
  have g45 := grown_trans g4 g5
  have P5 := Lib.hid (P3.out.rowB g45 HA.out)
  have N5 := Lib.hid (N3.out.rowB g45 HB.out)
  have G5 := Lib.hid (grown_new G3.out g45 (by have := Z1.out; omega))
  have D5 := Lib.hid (blkK g45 D3.out (by have := Z1.out; simp; omega))
  have R5 := Lib.hid r5
  clear g4 g5 r4 r5 g45
  go_wp2_with fail
  refine (replyMakeS_any s _ _ _ _ ps _ _ _ ns _ P5.out N5.out).mono ?_
  rintro q w6 ⟨ha, hc, ka, kc, M6, rfl, oh, -, g6, -, -⟩
  have hlen := rmR_len s ps ns v5
  obtain ⟨P, hP⟩ : ∃ P, rmR s ps ns v5 = P := ⟨_, rfl⟩
  rw [hP] at oh hlen ⊢
  clear hP
  obtain ⟨⟨F, E, H, T⟩, K⟩ := P
  simp only [] at oh hlen ⊢
  obtain ⟨hN, hHN⟩ : ∃ N, H.length = N := ⟨_, rfl⟩
  rw [hHN] at oh hlen ⊢
  have HHN := Lib.hid hHN
  obtain ⟨xb, hxb⟩ : ∃ x, w6.heap.size = x := ⟨_, rfl⟩
  have ga := grown_alloc w6 (.cells #[.int .i64 F, .int .i64 E, .slice ha hN hc, .int .i64 T] 27) none
  have nxr : some xb ≠ some rb := by have := R5.out.lt; have := g6.size; simp; omega
  have HO := Lib.hid (OwnI.grown oh ga)
  have HS := Lib.hid (show rb < w5.heap.size from R5.out.lt)
  have XW := Lib.hid (show rb < xb by have := R5.out.lt; have := g6.size; omega)
  have G6 := Lib.hid (grown_trans G5.out (grown_trans g6 ga))
  have D6 := Lib.hid (blkK (grown_trans g6 ga) D5.out (by simp))
  have DX := Lib.hid (show (w6.alloc (.cells #[.int .i64 F, .int .i64 E, .slice ha hN hc, .int .i64 T] 27)).heap[xb]? = some (.cells #[.int .i64 F, .int .i64 E, .slice ha hN hc, .int .i64 T] 27) from heap_next hxb)
  have R6 := Lib.hid (R5.out.grown (grown_trans g6 ga))
  have HX := Lib.hid (show ∀ a, ha = some a → a.block < xb from fun a e => by have := ((OwnI.ints oh).2.2 a e).2; omega)
  clear oh g6 ga hHN D5 G5 P5 N5 R5
  go_wp2_with fail
  refine (pick_any _ 16 _ _ R6.out (by omega) (by omega) (by omega)).mono ?_
  rintro e w8 ⟨v8, rfl, k8, g8, r8⟩
  have HO8 := Lib.hid (OwnI.row HO.out g8 (fun k e => by simp at e; have := HS.out; omega))
  have G8 := Lib.hid (grown_new G6.out g8 (by have := Z1.out; omega))
  have D8 := Lib.hid (blkK g8 D6.out (by have := Z1.out; simp; omega))
  have DB8 := Lib.hid (blkK g8 DX.out nxr)
  have R8 := Lib.hid r8
  clear g8 r8 HO G6 D6 DX R6 hxb
  have RK := Lib.hid (show Rdr w8 rb 990 from R8.out.mono (by omega))
  have HK := Lib.hid (show ∀ a, ha = some a → rb < a.block from fun a e => by have := ((OwnI.ints HO8.out).2.2 a e).1; have := HS.out; omega)
  by_cases h0 : v8 = 0
  · subst h0
    go_wp2_with fail
    refine (pick_any _ 10 _ _ RK.out (by omega) (by omega) (by omega)).mono ?_
    rintro e w9 ⟨v9, rfl, k9, g9, r9⟩
    have D9 := Lib.hid (blkK g9 DB8.out nxr)
    have e0 := blkC D9.out 0 rfl
    have e1 := blkC D9.out 1 rfl
    have e2 := blkC D9.out 2 rfl
    have e3 := blkC D9.out 3 rfl
    have f0 := blkF D9.out 0
    have f1 := blkF D9.out 1
    have gs := grown_set w9 xb 0 (.int .i64 ((v9 : Int) - 1))
    have DB := Lib.hid (show (w9.setCell ⟨xb, 0, none⟩ (.int .i64 ((v9 : Int) - 1))).heap[xb]? = some (.cells #[.int .i64 ((v9 : Int) - 1), .int .i64 E, .slice ha hN hc, .int .i64 T] 27) from heap_setCell_at D9.out _)
    have DZ := Lib.hid (blkK gs (blkK g9 D8.out (by have := Z1.out; simp; omega)) (by have := XW.out; have := Z1.out; simp; omega))
    have Rx := Lib.hid ((Rdr.set r9 (p := ⟨xb, 0, none⟩) XW.out (.int .i64 ((v9 : Int) - 1))).mono (show _ ≤ 1000 by omega))
    have HI := Lib.hid (show IntsAt _ ha hN hc H from RowAt.row (OwnI.ints (OwnI.row HO8.out g9 (fun k e => by simp at e; have := HS.out; omega))).1 gs (fun a e e2 => by have := HX.out a e; simp at e2; omega))
    have GX := Lib.hid (grown_new (grown_new G8.out g9 (by have := Z1.out; omega)) gs (by have := XW.out; have := Z1.out; omega))
    clear gs g9 r9 HO8 G8 D8 DB8 RK
    go_wp2_with fail
    obtain ⟨wx, hwx⟩ : ∃ x, w9.setCell ⟨xb, 0, none⟩ (.int .i64 ((v9 : Int) - 1)) = x := ⟨_, rfl⟩
    obtain ⟨F9, hF9⟩ : ∃ x, (v9 : Int) - 1 = x := ⟨_, rfl⟩
    rw [hwx] at DB DZ Rx HI GX ⊢
    rw [hF9] at DB ⊢
    clear hwx e0 e1 e2 e3 f0 f1 D9
    have x0 := cell_dr (blkC DB.out 0 rfl)
    have x1 := cell_dr (blkC DB.out 1 rfl)
    have x2 := cell_dr (blkC DB.out 2 rfl)
    have x3 := cell_dr (blkC DB.out 3 rfl)
    have nxz : some xb ≠ some w.heap.size := by have := HS.out; have := Z1.out; have := XW.out; simp; omega
    have nzr : some w.heap.size ≠ some rb := by have := Z1.out; simp; omega
    have DD := Lib.hid (show wx.drew.heap[w.heap.size]? = some bk0 from DZ.out)
    have d0 := blkC DD.out 0 rfl
    have d1 := blkC DD.out 1 rfl
    have d2 := blkC DD.out 2 rfl
    have d3 := blkC DD.out 3 rfl
    have f0 := blkF DD.out 0
    have f1 := blkF DD.out 1
    have f2 := blkF DD.out 2
    have f3 := blkF DD.out 3
    have RD := Lib.hid (show Rdr wx.drew rb 1000 from Rx.out.drew)
    go_region_held3 (fun w' => w'.cell? ⟨xb, 0, none⟩ = some (.int .i64 F9) ∧ w'.cell? ⟨xb, 1, none⟩ = some (.int .i64 E) ∧ w'.cell? ⟨xb, 2, none⟩ = some (.slice ha hN hc) ∧ w'.cell? ⟨xb, 3, none⟩ = some (.int .i64 T)) (first | go_keep | with_reducible exact ⟨x0, x1, x2, x3⟩ | with_reducible exact ⟨y0, y1, y2, y3⟩ | with_reducible exact ⟨u0, u1, u2, u3⟩)
      (first
        | (go_at_call 64; refine (l91List_any rb 1000 4 (by omega) _ RD.out (by omega)).mono ?_; rintro q w7 ⟨zs, a7, c7, l7, rfl, o7, g7, r7⟩; have y0 := g7.cell x0 nxr; have y1 := g7.cell x1 nxr; have y2 := g7.cell x2 nxr; have y3 := g7.cell x3 nxr; clear d0 d1 d2 d3 f0 f1 f2 f3; have D7 := Lib.hid (blkK g7 DD.out nzr); have d0 := blkC D7.out 0 rfl; have d1 := blkC D7.out 1 rfl; have d2 := blkC D7.out 2 rfl; have d3 := blkC D7.out 3 rfl; have f0 := blkF D7.out 0; have f1 := blkF D7.out 1; have f2 := blkF D7.out 2; have f3 := blkF D7.out 3; have gq := (grown_trans (grown_trans (grown_trans (grown_set w7 w.heap.size 0 (.int .i64 F9)) (grown_set _ w.heap.size 1 (.int .i64 E))) (grown_set _ w.heap.size 2 (.slice ha hN hc))) (grown_set _ w.heap.size 3 (.int .i64 T))); have u0 := gq.cell y0 nxz; have u1 := gq.cell y1 nxz; have u2 := gq.cell y2 nxz; have u3 := gq.cell y3 nxz))
    all_goals
      have HF := Lib.hid (((HI.out.grown (gDrew (grown_refl _ none))).rowB g7 HK.out).rowB gq (fun a e => by have := HK.out a e; have := Z1.out; omega))
      have LF := Lib.hid (OwnI.ints (OwnI.row o7 gq (fun k e => by simp at e; have := (show wx.drew.heap.size = wx.heap.size from rfl); have := GX.out.size; have := (blkL DZ.out); omega))).1
      have GF := Lib.hid (grown_new (grown_new (gDrew GX.out) g7 (by have := Z1.out; omega)) gq (Nat.le_refl _))
      clear o7 g7 r7 y0 y1 y2 y3 u0 u1 u2 u3 x0 x1 x2 x3 gq
      go_wp2_with fail
      refine bodyPost_ret (v := .tuple #[.agg #[.int .i64 F9, .int .i64 E, .slice ha hN hc, .int .i64 T], .slice a7 zs.length c7]) (by (simp only [results, Try.results27]; go_simp)) rfl ⟨F9, E, T, H, zs, _, _, _, _, _, _, rfl, HF.out, LF.out, by omega, GF.out⟩
  by_cases h1 : v8 = 1
  · subst h1
    rcases own_form HO8.out with ⟨rfl, rfl, rfl⟩ | ⟨g, rfl⟩
    · have x2 : w8.drew.cell? ⟨xb, 2, none⟩ = some (.slice none 0 0) := cell_dr (blkC DB8.out 2 rfl)
      have z2 : World.cell? (w8.alloc (.cells #[] 3)).drew ⟨xb, 2, none⟩ = some (.slice none 0 0) := cell_dr (blkC (blkA DB8.out) 2 rfl)
      have RA := Lib.hid (show Rdr w8.drew rb 990 from RK.out.drew)
      have RB := Lib.hid (show Rdr (w8.alloc (.cells #[] 3)).drew rb 990 from (RK.out.al _).drew)
      have HH8 := Lib.hid (OwnI.ints HO8.out).1
      have nil8 := Lib.hid (show (w8.alloc (.cells #[] 3)).drew.heap[w8.heap.size]? = some (.cells #[] 3) from heap_alloc_new w8 _)
      have RBL := Lib.hid (show rb < w8.heap.size from RK.out.lt)
      go_wp2_with fail
      go_region_law (first
        | (go_simp; go_at_call 45; refine (pick_any rb 1 990 _ RA.out (by omega) (by omega) (by omega)).mono ?_; rintro q w9 ⟨v9, rfl, k9, g9, r9⟩; obtain rfl : v9 = 0 := (by omega); have y2 := g9.cell x2 nxr; have t2 := (grown_alloc w9 (.cells #[] 3) none).cell y2 (by simp))
        | (go_simp; go_at_call 45; refine (pick_any rb 1 990 _ RB.out (by omega) (by omega) (by omega)).mono ?_; rintro q w9 ⟨v9, rfl, k9, g9, r9⟩; obtain rfl : v9 = 0 := (by omega); have y2 := g9.cell z2 nxr)
        | (refine step_ints (B := w8.heap.size) rfl (.tmp 38) (.tmp 47) rfl (own_nil_at (N := w8.heap.size) (blkK g9 nil8.out (by have := RBL.out; simp; omega)) (Nat.le_refl _)) (ints_empty (by omega) (fun _ => rfl)) rfl rfl (by have := g9.size; simp at this; omega) (by simp; try omega) ?_; intro v10 w10 o10 g10; have GD10 : w8.grownBy w10 (some rb) := gRow (grown_trans (gDrew (grown_alloc _ _ _)) g9) g10 (fun i hi e => by first | (simp at e; omega) | (simp [Value.ownBlock] at e; omega)); have R10 := Lib.hid (r9.row g10 (fun b hb => by have := RBL.out; first | (simp; omega) | (simp [Value.ownBlock]; omega))); rw [List.nil_append] at o10; obtain ⟨a10, c10, rfl, -, -⟩ := OwnI.shape o10; obtain ⟨N9, hN9⟩ : ∃ x, (([] : List Int)).length = x := ⟨_, rfl⟩; rw [hN9] at o10 ⊢; have hq : N9 ≤ 1000 := (by rw [← hN9]; simp; try omega); clear hN9; have D10 := Lib.hid (blkK GD10 DB8.out nxr); have b2 := blkC D10.out 2 rfl; have bf2 := blkF D10.out 2; clear g10)
        | (refine step_ints (B := w8.heap.size) rfl (.tmp 38) (.tmp 47) rfl (own_nil_at (N := w9.heap.size) (w := w9.alloc (.cells #[] 3)) (heap_alloc_new _ _) (show w8.heap.size ≤ w9.heap.size from g9.size)) (ints_empty (by omega) (fun _ => rfl)) rfl rfl (by have := g9.size; simp at this ⊢; omega) (by simp; try omega) ?_; intro v10 w10 o10 g10; have GD10 : w8.grownBy w10 (some rb) := gRow (grown_trans (gDrew (grown_refl _ _)) (gAlloc g9 _)) g10 (fun i hi e => by have := (show w8.heap.size ≤ w9.heap.size from g9.size); first | (simp at e; omega) | (simp [Value.ownBlock] at e; omega)); have R10 := Lib.hid ((r9.al (.cells #[] 3)).row g10 (fun b hb => by have := RBL.out; have := (show w8.heap.size ≤ w9.heap.size from g9.size); first | (simp; omega) | (simp [Value.ownBlock]; omega))); rw [List.nil_append] at o10; obtain ⟨a10, c10, rfl, -, -⟩ := OwnI.shape o10; obtain ⟨N9, hN9⟩ : ∃ x, (([] : List Int)).length = x := ⟨_, rfl⟩; rw [hN9] at o10 ⊢; have hq : N9 ≤ 1000 := (by rw [← hN9]; simp; try omega); clear hN9; have D10 := Lib.hid (blkK GD10 DB8.out nxr); have b2 := blkC D10.out 2 rfl; have bf2 := blkF D10.out 2; clear g10))
      all_goals
        have gs := grown_set w10 xb 2 (.slice a10 N9 c10)
        have BX8 := Lib.hid (blkL DB8.out)
        have DB := Lib.hid (show (w10.setCell ⟨xb, 2, none⟩ (.slice a10 N9 c10)).heap[xb]? = some (.cells #[.int .i64 F, .int .i64 E, .slice a10 N9 c10, .int .i64 T] 27) from heap_setCell_at D10.out _)
        have DZ := Lib.hid (blkK gs (blkK GD10 D8.out (by have := Z1.out; simp; omega)) (by have := XW.out; have := Z1.out; simp; omega))
        have Rx := Lib.hid ((Rdr.set R10.out (p := ⟨xb, 2, none⟩) XW.out (.slice a10 N9 c10)).mono (show _ ≤ 1000 by omega))
        have HI := Lib.hid (OwnI.ints (OwnI.row o10 gs (fun k e => by simp at e; have := BX8.out; omega))).1
        have GX := Lib.hid (grown_new (grown_new G8.out GD10 (by have := Z1.out; omega)) gs (by have := XW.out; have := Z1.out; omega))
        have HK := Lib.hid (show ∀ a, a10 = some a → rb < a.block from fun a e => by have := ((OwnI.ints o10).2.2 a e).1; have := RBL.out; omega)
        clear gs g9 r9 R10 GD10 D10 o10 b2 bf2 x2 z2 y2
        go_wp2_with fail
        obtain ⟨wx, hwx⟩ : ∃ x, w10.setCell ⟨xb, 2, none⟩ (.slice a10 N9 c10) = x := ⟨_, rfl⟩
        rw [hwx] at DB DZ Rx HI GX ⊢
        clear hwx
        have x0 := cell_dr (blkC DB.out 0 rfl)
        have x1 := cell_dr (blkC DB.out 1 rfl)
        have x2 := cell_dr (blkC DB.out 2 rfl)
        have x3 := cell_dr (blkC DB.out 3 rfl)
        have nxz : some xb ≠ some w.heap.size := by have := HS.out; have := Z1.out; have := XW.out; simp; omega
        have nzr : some w.heap.size ≠ some rb := by have := Z1.out; simp; omega
        have DD := Lib.hid (show wx.drew.heap[w.heap.size]? = some bk0 from DZ.out)
        have d0 := blkC DD.out 0 rfl
        have d1 := blkC DD.out 1 rfl
        have d2 := blkC DD.out 2 rfl
        have d3 := blkC DD.out 3 rfl
        have f0 := blkF DD.out 0
        have f1 := blkF DD.out 1
        have f2 := blkF DD.out 2
        have f3 := blkF DD.out 3
        have RD := Lib.hid (show Rdr wx.drew rb 1000 from Rx.out.drew)
        go_region_held3 (fun w' => w'.cell? ⟨xb, 0, none⟩ = some (.int .i64 F) ∧ w'.cell? ⟨xb, 1, none⟩ = some (.int .i64 E) ∧ w'.cell? ⟨xb, 2, none⟩ = some (.slice a10 N9 c10) ∧ w'.cell? ⟨xb, 3, none⟩ = some (.int .i64 T)) (first | go_keep | with_reducible exact ⟨x0, x1, x2, x3⟩ | with_reducible exact ⟨y0, y1, y2, y3⟩ | with_reducible exact ⟨u0, u1, u2, u3⟩)
          (first
            | (go_at_call 64; refine (l91List_any rb 1000 4 (by omega) _ RD.out (by omega)).mono ?_; rintro q w7 ⟨zs, a7, c7, l7, rfl, o7, g7, r7⟩; have y0 := g7.cell x0 nxr; have y1 := g7.cell x1 nxr; have y2 := g7.cell x2 nxr; have y3 := g7.cell x3 nxr; clear d0 d1 d2 d3 f0 f1 f2 f3; have D7 := Lib.hid (blkK g7 DD.out nzr); have d0 := blkC D7.out 0 rfl; have d1 := blkC D7.out 1 rfl; have d2 := blkC D7.out 2 rfl; have d3 := blkC D7.out 3 rfl; have f0 := blkF D7.out 0; have f1 := blkF D7.out 1; have f2 := blkF D7.out 2; have f3 := blkF D7.out 3; have gq := (grown_trans (grown_trans (grown_trans (grown_set w7 w.heap.size 0 (.int .i64 F)) (grown_set _ w.heap.size 1 (.int .i64 E))) (grown_set _ w.heap.size 2 (.slice a10 N9 c10))) (grown_set _ w.heap.size 3 (.int .i64 T))); have u0 := gq.cell y0 nxz; have u1 := gq.cell y1 nxz; have u2 := gq.cell y2 nxz; have u3 := gq.cell y3 nxz))
        all_goals
          have HF := Lib.hid (((HI.out.grown (gDrew (grown_refl _ none))).rowB g7 HK.out).rowB gq (fun a e => by have := HK.out a e; have := Z1.out; omega))
          have LF := Lib.hid (OwnI.ints (OwnI.row o7 gq (fun k e => by simp at e; have := (show wx.drew.heap.size = wx.heap.size from rfl); have := GX.out.size; have := (blkL DZ.out); omega))).1
          have GF := Lib.hid (grown_new (grown_new (gDrew GX.out) g7 (by have := Z1.out; omega)) gq (Nat.le_refl _))
          clear o7 g7 r7 y0 y1 y2 y3 u0 u1 u2 u3 x0 x1 x2 x3 gq
          go_wp2_with fail
          refine bodyPost_ret (v := .tuple #[.agg #[.int .i64 F, .int .i64 E, .slice a10 N9 c10, .int .i64 T], .slice a7 zs.length c7]) (by (simp only [results, Try.results27]; go_simp)) rfl ⟨F, E, T, ([] : List Int), zs, _, _, _, _, _, _, rfl, HF.out, LF.out, by omega, GF.out⟩
    · have hcap : hN ≤ hc := RowAt.le (OwnI.ints HO8.out).1
      have cmax := RowAt.max (OwnI.ints HO8.out).1
      have hw1 : IntKind.i64.wrap ((hN : Int) + 1) = (hN : Int) + 1 := IntWalk.i64_in _ (by omega)
      have x2 : w8.drew.cell? ⟨xb, 2, none⟩ = some (.slice (some ⟨g, 0, none⟩) hN hc) := cell_dr (blkC DB8.out 2 rfl)
      have z2 : World.cell? (w8.alloc (.cells #[] 3)).drew ⟨xb, 2, none⟩ = some (.slice (some ⟨g, 0, none⟩) hN hc) := cell_dr (blkC (blkA DB8.out) 2 rfl)
      have RA := Lib.hid (show Rdr w8.drew rb 990 from RK.out.drew)
      have RB := Lib.hid (show Rdr (w8.alloc (.cells #[] 3)).drew rb 990 from (RK.out.al _).drew)
      have HH8 := Lib.hid (OwnI.ints HO8.out).1
      have nil8 := Lib.hid (show (w8.alloc (.cells #[] 3)).drew.heap[w8.heap.size]? = some (.cells #[] 3) from heap_alloc_new w8 _)
      have RBL := Lib.hid (show rb < w8.heap.size from RK.out.lt)
      go_wp2_with fail
      go_region_law (first
        | (go_simp; go_at_call 45; refine (pick_any rb ((hN : Int) + 1) 990 _ RA.out (by omega) (by omega) (by omega)).mono ?_; rintro q w9 ⟨v9, rfl, k9, g9, r9⟩; have kc : (v9 : Int) ≤ hc := (by omega); have y2 := g9.cell x2 nxr; have t2 := (grown_alloc w9 (.cells #[] 3) none).cell y2 (by simp))
        | (go_simp; go_at_call 45; refine (pick_any rb ((hN : Int) + 1) 990 _ RB.out (by omega) (by omega) (by omega)).mono ?_; rintro q w9 ⟨v9, rfl, k9, g9, r9⟩; have kc : (v9 : Int) ≤ hc := (by omega); have y2 := g9.cell z2 nxr)
        | (refine step_ints (B := w8.heap.size) rfl (.tmp 38) (.tmp 47) rfl (own_nil_at (N := w8.heap.size) (blkK g9 nil8.out (by have := RBL.out; simp; omega)) (Nat.le_refl _)) (IntsAt.pre (((HH8.out.grown (grown_alloc _ _ none)).grown (gDrew (grown_refl _ none))).rowB g9 HK.out) v9 (by omega)) rfl rfl (by have := g9.size; simp at this; omega) (by simp; try omega) ?_; intro v10 w10 o10 g10; have GD10 : w8.grownBy w10 (some rb) := gRow (grown_trans (gDrew (grown_alloc _ _ _)) g9) g10 (fun i hi e => by first | (simp at e; omega) | (simp [Value.ownBlock] at e; omega)); have R10 := Lib.hid (r9.row g10 (fun b hb => by have := RBL.out; first | (simp; omega) | (simp [Value.ownBlock]; omega))); rw [List.nil_append] at o10; obtain ⟨a10, c10, rfl, -, -⟩ := OwnI.shape o10; obtain ⟨N9, hN9⟩ : ∃ x, ((List.take v9 H)).length = x := ⟨_, rfl⟩; rw [hN9] at o10 ⊢; have hq : N9 ≤ 1000 := (by rw [← hN9]; simp; try omega); clear hN9; have D10 := Lib.hid (blkK GD10 DB8.out nxr); have b2 := blkC D10.out 2 rfl; have bf2 := blkF D10.out 2; clear g10)
        | (refine step_ints (B := w8.heap.size) rfl (.tmp 38) (.tmp 47) rfl (own_nil_at (N := w9.heap.size) (w := w9.alloc (.cells #[] 3)) (heap_alloc_new _ _) (show w8.heap.size ≤ w9.heap.size from g9.size)) (IntsAt.pre (((HH8.out.grown (gDrew (grown_refl _ none))).rowB g9 HK.out).grown (grown_alloc _ _ none)) v9 (by omega)) rfl rfl (by have := g9.size; simp at this ⊢; omega) (by simp; try omega) ?_; intro v10 w10 o10 g10; have GD10 : w8.grownBy w10 (some rb) := gRow (grown_trans (gDrew (grown_refl _ _)) (gAlloc g9 _)) g10 (fun i hi e => by have := (show w8.heap.size ≤ w9.heap.size from g9.size); first | (simp at e; omega) | (simp [Value.ownBlock] at e; omega)); have R10 := Lib.hid ((r9.al (.cells #[] 3)).row g10 (fun b hb => by have := RBL.out; have := (show w8.heap.size ≤ w9.heap.size from g9.size); first | (simp; omega) | (simp [Value.ownBlock]; omega))); rw [List.nil_append] at o10; obtain ⟨a10, c10, rfl, -, -⟩ := OwnI.shape o10; obtain ⟨N9, hN9⟩ : ∃ x, ((List.take v9 H)).length = x := ⟨_, rfl⟩; rw [hN9] at o10 ⊢; have hq : N9 ≤ 1000 := (by rw [← hN9]; simp; try omega); clear hN9; have D10 := Lib.hid (blkK GD10 DB8.out nxr); have b2 := blkC D10.out 2 rfl; have bf2 := blkF D10.out 2; clear g10))
      all_goals
        have gs := grown_set w10 xb 2 (.slice a10 N9 c10)
        have BX8 := Lib.hid (blkL DB8.out)
        have DB := Lib.hid (show (w10.setCell ⟨xb, 2, none⟩ (.slice a10 N9 c10)).heap[xb]? = some (.cells #[.int .i64 F, .int .i64 E, .slice a10 N9 c10, .int .i64 T] 27) from heap_setCell_at D10.out _)
        have DZ := Lib.hid (blkK gs (blkK GD10 D8.out (by have := Z1.out; simp; omega)) (by have := XW.out; have := Z1.out; simp; omega))
        have Rx := Lib.hid ((Rdr.set R10.out (p := ⟨xb, 2, none⟩) XW.out (.slice a10 N9 c10)).mono (show _ ≤ 1000 by omega))
        have HI := Lib.hid (OwnI.ints (OwnI.row o10 gs (fun k e => by simp at e; have := BX8.out; omega))).1
        have GX := Lib.hid (grown_new (grown_new G8.out GD10 (by have := Z1.out; omega)) gs (by have := XW.out; have := Z1.out; omega))
        have HK := Lib.hid (show ∀ a, a10 = some a → rb < a.block from fun a e => by have := ((OwnI.ints o10).2.2 a e).1; have := RBL.out; omega)
        clear gs g9 r9 R10 GD10 D10 o10 b2 bf2 x2 z2 y2
        go_wp2_with fail
        obtain ⟨wx, hwx⟩ : ∃ x, w10.setCell ⟨xb, 2, none⟩ (.slice a10 N9 c10) = x := ⟨_, rfl⟩
        rw [hwx] at DB DZ Rx HI GX ⊢
        clear hwx
        have x0 := cell_dr (blkC DB.out 0 rfl)
        have x1 := cell_dr (blkC DB.out 1 rfl)
        have x2 := cell_dr (blkC DB.out 2 rfl)
        have x3 := cell_dr (blkC DB.out 3 rfl)
        have nxz : some xb ≠ some w.heap.size := by have := HS.out; have := Z1.out; have := XW.out; simp; omega
        have nzr : some w.heap.size ≠ some rb := by have := Z1.out; simp; omega
        have DD := Lib.hid (show wx.drew.heap[w.heap.size]? = some bk0 from DZ.out)
        have d0 := blkC DD.out 0 rfl
        have d1 := blkC DD.out 1 rfl
        have d2 := blkC DD.out 2 rfl
        have d3 := blkC DD.out 3 rfl
        have f0 := blkF DD.out 0
        have f1 := blkF DD.out 1
        have f2 := blkF DD.out 2
        have f3 := blkF DD.out 3
        have RD := Lib.hid (show Rdr wx.drew rb 1000 from Rx.out.drew)
        go_region_held3 (fun w' => w'.cell? ⟨xb, 0, none⟩ = some (.int .i64 F) ∧ w'.cell? ⟨xb, 1, none⟩ = some (.int .i64 E) ∧ w'.cell? ⟨xb, 2, none⟩ = some (.slice a10 N9 c10) ∧ w'.cell? ⟨xb, 3, none⟩ = some (.int .i64 T)) (first | go_keep | with_reducible exact ⟨x0, x1, x2, x3⟩ | with_reducible exact ⟨y0, y1, y2, y3⟩ | with_reducible exact ⟨u0, u1, u2, u3⟩)
          (first
            | (go_at_call 64; refine (l91List_any rb 1000 4 (by omega) _ RD.out (by omega)).mono ?_; rintro q w7 ⟨zs, a7, c7, l7, rfl, o7, g7, r7⟩; have y0 := g7.cell x0 nxr; have y1 := g7.cell x1 nxr; have y2 := g7.cell x2 nxr; have y3 := g7.cell x3 nxr; clear d0 d1 d2 d3 f0 f1 f2 f3; have D7 := Lib.hid (blkK g7 DD.out nzr); have d0 := blkC D7.out 0 rfl; have d1 := blkC D7.out 1 rfl; have d2 := blkC D7.out 2 rfl; have d3 := blkC D7.out 3 rfl; have f0 := blkF D7.out 0; have f1 := blkF D7.out 1; have f2 := blkF D7.out 2; have f3 := blkF D7.out 3; have gq := (grown_trans (grown_trans (grown_trans (grown_set w7 w.heap.size 0 (.int .i64 F)) (grown_set _ w.heap.size 1 (.int .i64 E))) (grown_set _ w.heap.size 2 (.slice a10 N9 c10))) (grown_set _ w.heap.size 3 (.int .i64 T))); have u0 := gq.cell y0 nxz; have u1 := gq.cell y1 nxz; have u2 := gq.cell y2 nxz; have u3 := gq.cell y3 nxz))
        all_goals
          have HF := Lib.hid (((HI.out.grown (gDrew (grown_refl _ none))).rowB g7 HK.out).rowB gq (fun a e => by have := HK.out a e; have := Z1.out; omega))
          have LF := Lib.hid (OwnI.ints (OwnI.row o7 gq (fun k e => by simp at e; have := (show wx.drew.heap.size = wx.heap.size from rfl); have := GX.out.size; have := (blkL DZ.out); omega))).1
          have GF := Lib.hid (grown_new (grown_new (gDrew GX.out) g7 (by have := Z1.out; omega)) gq (Nat.le_refl _))
          clear o7 g7 r7 y0 y1 y2 y3 u0 u1 u2 u3 x0 x1 x2 x3 gq
          go_wp2_with fail
          refine bodyPost_ret (v := .tuple #[.agg #[.int .i64 F, .int .i64 E, .slice a10 N9 c10, .int .i64 T], .slice a7 zs.length c7]) (by (simp only [results, Try.results27]; go_simp)) rfl ⟨F, E, T, (List.take v9 H), zs, _, _, _, _, _, _, rfl, HF.out, LF.out, by omega, GF.out⟩
  by_cases h2 : v8 = 2
  · subst h2
    go_wp2_with fail
    refine (l91Is_any rb _ _ RK.out (by omega)).mono ?_
    rintro q w9 ⟨E9, rfl, -, g9, r9⟩
    have D9 := Lib.hid (blkK g9 DB8.out nxr)
    have e0 := blkC D9.out 0 rfl
    have e1 := blkC D9.out 1 rfl
    have e2 := blkC D9.out 2 rfl
    have e3 := blkC D9.out 3 rfl
    have f0 := blkF D9.out 0
    have f1 := blkF D9.out 1
    have gs := grown_set w9 xb 1 (.int .i64 E9)
    have DB := Lib.hid (show (w9.setCell ⟨xb, 1, none⟩ (.int .i64 E9)).heap[xb]? = some (.cells #[.int .i64 F, .int .i64 E9, .slice ha hN hc, .int .i64 T] 27) from heap_setCell_at D9.out _)
    have DZ := Lib.hid (blkK gs (blkK g9 D8.out (by have := Z1.out; simp; omega)) (by have := XW.out; have := Z1.out; simp; omega))
    have Rx := Lib.hid ((Rdr.set r9 (p := ⟨xb, 1, none⟩) XW.out (.int .i64 E9)).mono (show _ ≤ 1000 by omega))
    have HI := Lib.hid (show IntsAt _ ha hN hc H from RowAt.row (OwnI.ints (OwnI.row HO8.out g9 (fun k e => by simp at e; have := HS.out; omega))).1 gs (fun a e e2 => by have := HX.out a e; simp at e2; omega))
    have GX := Lib.hid (grown_new (grown_new G8.out g9 (by have := Z1.out; omega)) gs (by have := XW.out; have := Z1.out; omega))
    clear gs g9 r9 HO8 G8 D8 DB8 RK
    go_wp2_with fail
    obtain ⟨wx, hwx⟩ : ∃ x, w9.setCell ⟨xb, 1, none⟩ (.int .i64 E9) = x := ⟨_, rfl⟩
    rw [hwx] at DB DZ Rx HI GX ⊢
    clear hwx e0 e1 e2 e3 f0 f1 D9
    have x0 := cell_dr (blkC DB.out 0 rfl)
    have x1 := cell_dr (blkC DB.out 1 rfl)
    have x2 := cell_dr (blkC DB.out 2 rfl)
    have x3 := cell_dr (blkC DB.out 3 rfl)
    have nxz : some xb ≠ some w.heap.size := by have := HS.out; have := Z1.out; have := XW.out; simp; omega
    have nzr : some w.heap.size ≠ some rb := by have := Z1.out; simp; omega
    have DD := Lib.hid (show wx.drew.heap[w.heap.size]? = some bk0 from DZ.out)
    have d0 := blkC DD.out 0 rfl
    have d1 := blkC DD.out 1 rfl
    have d2 := blkC DD.out 2 rfl
    have d3 := blkC DD.out 3 rfl
    have f0 := blkF DD.out 0
    have f1 := blkF DD.out 1
    have f2 := blkF DD.out 2
    have f3 := blkF DD.out 3
    have RD := Lib.hid (show Rdr wx.drew rb 1000 from Rx.out.drew)
    go_region_held3 (fun w' => w'.cell? ⟨xb, 0, none⟩ = some (.int .i64 F) ∧ w'.cell? ⟨xb, 1, none⟩ = some (.int .i64 E9) ∧ w'.cell? ⟨xb, 2, none⟩ = some (.slice ha hN hc) ∧ w'.cell? ⟨xb, 3, none⟩ = some (.int .i64 T)) (first | go_keep | with_reducible exact ⟨x0, x1, x2, x3⟩ | with_reducible exact ⟨y0, y1, y2, y3⟩ | with_reducible exact ⟨u0, u1, u2, u3⟩)
      (first
        | (go_at_call 64; refine (l91List_any rb 1000 4 (by omega) _ RD.out (by omega)).mono ?_; rintro q w7 ⟨zs, a7, c7, l7, rfl, o7, g7, r7⟩; have y0 := g7.cell x0 nxr; have y1 := g7.cell x1 nxr; have y2 := g7.cell x2 nxr; have y3 := g7.cell x3 nxr; clear d0 d1 d2 d3 f0 f1 f2 f3; have D7 := Lib.hid (blkK g7 DD.out nzr); have d0 := blkC D7.out 0 rfl; have d1 := blkC D7.out 1 rfl; have d2 := blkC D7.out 2 rfl; have d3 := blkC D7.out 3 rfl; have f0 := blkF D7.out 0; have f1 := blkF D7.out 1; have f2 := blkF D7.out 2; have f3 := blkF D7.out 3; have gq := (grown_trans (grown_trans (grown_trans (grown_set w7 w.heap.size 0 (.int .i64 F)) (grown_set _ w.heap.size 1 (.int .i64 E9))) (grown_set _ w.heap.size 2 (.slice ha hN hc))) (grown_set _ w.heap.size 3 (.int .i64 T))); have u0 := gq.cell y0 nxz; have u1 := gq.cell y1 nxz; have u2 := gq.cell y2 nxz; have u3 := gq.cell y3 nxz))
    all_goals
      have HF := Lib.hid (((HI.out.grown (gDrew (grown_refl _ none))).rowB g7 HK.out).rowB gq (fun a e => by have := HK.out a e; have := Z1.out; omega))
      have LF := Lib.hid (OwnI.ints (OwnI.row o7 gq (fun k e => by simp at e; have := (show wx.drew.heap.size = wx.heap.size from rfl); have := GX.out.size; have := (blkL DZ.out); omega))).1
      have GF := Lib.hid (grown_new (grown_new (gDrew GX.out) g7 (by have := Z1.out; omega)) gq (Nat.le_refl _))
      clear o7 g7 r7 y0 y1 y2 y3 u0 u1 u2 u3 x0 x1 x2 x3 gq
      go_wp2_with fail
      refine bodyPost_ret (v := .tuple #[.agg #[.int .i64 F, .int .i64 E9, .slice ha hN hc, .int .i64 T], .slice a7 zs.length c7]) (by (simp only [results, Try.results27]; go_simp)) rfl ⟨F, E9, T, H, zs, _, _, _, _, _, _, rfl, HF.out, LF.out, by omega, GF.out⟩
  · have q0 : ((v8 : Int) == 0) = false := by simp; omega
    have q1 : ((v8 : Int) == 1) = false := by simp; omega
    have q2 : ((v8 : Int) == 2) = false := by simp; omega
    go_wp2_with fail
    obtain ⟨wx, hwx⟩ : ∃ x, x = w8 := ⟨_, rfl⟩
    subst hwx
    have DB := DB8
    have DZ := D8
    have Rx := Lib.hid (RK.out.mono (show 990 ≤ 1000 by omega))
    have HI := Lib.hid (OwnI.ints HO8.out).1
    have GX := G8
    have x0 := cell_dr (blkC DB.out 0 rfl)
    have x1 := cell_dr (blkC DB.out 1 rfl)
    have x2 := cell_dr (blkC DB.out 2 rfl)
    have x3 := cell_dr (blkC DB.out 3 rfl)
    have nxz : some xb ≠ some w.heap.size := by have := HS.out; have := Z1.out; have := XW.out; simp; omega
    have nzr : some w.heap.size ≠ some rb := by have := Z1.out; simp; omega
    have DD := Lib.hid (show wx.drew.heap[w.heap.size]? = some bk0 from DZ.out)
    have d0 := blkC DD.out 0 rfl
    have d1 := blkC DD.out 1 rfl
    have d2 := blkC DD.out 2 rfl
    have d3 := blkC DD.out 3 rfl
    have f0 := blkF DD.out 0
    have f1 := blkF DD.out 1
    have f2 := blkF DD.out 2
    have f3 := blkF DD.out 3
    have RD := Lib.hid (show Rdr wx.drew rb 1000 from Rx.out.drew)
    go_region_held3 (fun w' => w'.cell? ⟨xb, 0, none⟩ = some (.int .i64 F) ∧ w'.cell? ⟨xb, 1, none⟩ = some (.int .i64 E) ∧ w'.cell? ⟨xb, 2, none⟩ = some (.slice ha hN hc) ∧ w'.cell? ⟨xb, 3, none⟩ = some (.int .i64 T)) (first | go_keep | with_reducible exact ⟨x0, x1, x2, x3⟩ | with_reducible exact ⟨y0, y1, y2, y3⟩ | with_reducible exact ⟨u0, u1, u2, u3⟩)
      (first
        | (go_at_call 64; refine (l91List_any rb 1000 4 (by omega) _ RD.out (by omega)).mono ?_; rintro q w7 ⟨zs, a7, c7, l7, rfl, o7, g7, r7⟩; have y0 := g7.cell x0 nxr; have y1 := g7.cell x1 nxr; have y2 := g7.cell x2 nxr; have y3 := g7.cell x3 nxr; clear d0 d1 d2 d3 f0 f1 f2 f3; have D7 := Lib.hid (blkK g7 DD.out nzr); have d0 := blkC D7.out 0 rfl; have d1 := blkC D7.out 1 rfl; have d2 := blkC D7.out 2 rfl; have d3 := blkC D7.out 3 rfl; have f0 := blkF D7.out 0; have f1 := blkF D7.out 1; have f2 := blkF D7.out 2; have f3 := blkF D7.out 3; have gq := (grown_trans (grown_trans (grown_trans (grown_set w7 w.heap.size 0 (.int .i64 F)) (grown_set _ w.heap.size 1 (.int .i64 E))) (grown_set _ w.heap.size 2 (.slice ha hN hc))) (grown_set _ w.heap.size 3 (.int .i64 T))); have u0 := gq.cell y0 nxz; have u1 := gq.cell y1 nxz; have u2 := gq.cell y2 nxz; have u3 := gq.cell y3 nxz))
    all_goals
      have HF := Lib.hid (((HI.out.grown (gDrew (grown_refl _ none))).rowB g7 HK.out).rowB gq (fun a e => by have := HK.out a e; have := Z1.out; omega))
      have LF := Lib.hid (OwnI.ints (OwnI.row o7 gq (fun k e => by simp at e; have := (show wx.drew.heap.size = wx.heap.size from rfl); have := GX.out.size; have := (blkL DZ.out); omega))).1
      have GF := Lib.hid (grown_new (grown_new (gDrew GX.out) g7 (by have := Z1.out; omega)) gq (Nat.le_refl _))
      clear o7 g7 r7 y0 y1 y2 y3 u0 u1 u2 u3 x0 x1 x2 x3 gq
      go_wp2_with fail
      refine bodyPost_ret (v := .tuple #[.agg #[.int .i64 F, .int .i64 E, .slice ha hN hc, .int .i64 T], .slice a7 zs.length c7]) (by (simp only [results, Try.results27]; go_simp)) rfl ⟨F, E, T, H, zs, _, _, _, _, _, _, rfl, HF.out, LF.out, by omega, GF.out⟩
end Go.Proofs.Ytedpkhboepahgaa
