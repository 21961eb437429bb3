/- Drawn lists of spent serial numbers. -/
import Derived.Test.YtppkbmlbggokkaaDoorOpen
import Derived.Test.YtppkbmlbggokkaaDoorInts
import Derived.WalkKit
import Derived.Lib.Hide
import Derived.Deep.QuietTactic
import Derived.BigQuiet
namespace Go.Proofs.YtppkbmlbggokkaaDoor
open Go.RowKit
/-- a drawn list: of the call's own, not too long -/
def ListPost (L : Nat) (rb c : Nat) (w : World) (e : Ending) (w' : World) : Prop :=
  ∃ zs : List Int, ∃ ao cap, zs.length ≤ L ∧ e = .returned (.slice ao zs.length cap) ∧ OwnI w.heap.size w' (.slice ao zs.length cap) zs ∧ w.grownBy w' (some rb) ∧ Rdr w' rb c
theorem list_post {L rb c : Nat} {w w' : World} {v : Value} {zs : List Int} (h : OwnI w.heap.size w' v zs) (hl : zs.length ≤ L) (hg : w.grownBy w' (some rb)) (hr : Rdr w' rb c) : ListPost L rb c w (.returned v) w' := by
  obtain ⟨ao, cap, rfl, _, _⟩ := h.shape
  exact ⟨zs, ao, cap, hl, rfl, h, hg, hr⟩
theorem own_app {B rb c : Nat} {w w1 w2 : World} {v v2 : Value} {zs : List Int} (hg : w.grownBy w1 (some rb)) (hr : Rdr w1 rb c) (ho : OwnI B w1 v zs) (hB : w.heap.size ≤ B) (hrb : rb < B) (h : w1.grownBy w2 v.ownBlock) (_ho2 : OwnI B w2 v2 zs) : w.grownBy w2 (some rb) ∧ Rdr w2 rb c :=
  ⟨grown_own hg ho h hB, hr.row h (fun b hb e => by have := (World.ownsRow.lt ho b e.symm).1; omega)⟩
set_option maxHeartbeats 4000000 in
theorem l92Spent_any (rb c : Nat) (w : World) (hr : Rdr w rb c) (hc : c ≤ 800000) :
    Calls Tryd.prog 23 #[.pointer (some ⟨rb, 0, none⟩)] w (ListPost 21 rb (c + 50) w) := by
  have hlt := hr.lt
  have r0 := hr.al (.cells #[] 3)
  have O0 := Lib.hid (own_nil w.heap.size w (Nat.le_refl _))
  go_enter Tryd.func23, Tryd.ntmps23
  go_wp2_with fail
  refine (pick_any _ 6 _ _ r0 (by omega) (by omega) (by omega)).mono ?_
  rintro e w1 ⟨v1, rfl, k1, g1, r1⟩
  have O1 := Lib.hid (OwnI.row O0.out g1 (fun k e => by simp at e; omega))
  have G1 := Lib.hid (grown_trans (grown_alloc w (.cells #[] 3) (some rb)) g1)
  have R1 := Lib.hid r1
  clear O0 r0 hr g1 r1
  by_cases h0 : v1 = 0
  · subst h0
    go_wp2_with fail
    go_loopw [3, 5] (fun v i wr => ∃ k : Nat, ∃ zs : List Int, k ≤ 40 ∧ i = .int .i64 k ∧ (∃ ao cap, v = .slice ao zs.length cap) ∧ zs.length ≤ 20 ∧ Hid (OwnI w.heap.size wr v zs) ∧ Hid (w.grownBy wr (some rb)) ∧ Hid (Rdr wr rb (c + 1 + k))) (fun _ i _ => 40 - (intOf i).toNat)
    case atStart => exact ⟨0, [], by omega, rfl, ⟨_, _, rfl⟩, by simp, O1, G1, R1⟩
    case round =>
      obtain ⟨k, zs, hk, rfl, ⟨ao, cap, rfl⟩, hz, ho, hg, hr⟩ := hrel
      by_cases hlt : k < 40 ∧ zs.length < 20
      · obtain ⟨ha, hb⟩ := hlt
        have hb' : (zs.length : Int) < 20 := by omega
        go_wp2_with fail
        refine (pick_any _ 1 _ _ hr.out (by omega) (by omega) (by omega)).mono ?_
        rintro e w2 ⟨v2, rfl, k2, g2, r2⟩
        have o2 := OwnI.row ho.out g2 (fun k e => by simp at e; omega)
        have G2 := Lib.hid (grown_trans hg.out g2)
        by_cases hv : v2 = 0
        · subst hv
          have O2 := Lib.hid (OwnI.grown o2 (grown_alloc w2 (.cells #[.int .i64 k] 3) none))
          have Y2 := Lib.hid (one_int w2 k)
          have HB := Lib.hid (show w.heap.size ≤ (w2.alloc (.cells #[.int .i64 k] 3)).heap.size by have := G2.out.size; simp; omega)
          have R2 := Lib.hid r2
          clear o2 g2 r2 ho hg hr
          go_wp2_with (at_builtin; refine app_ints rfl (.tmp 23) (.tmp 25) rfl O2.out Y2.out rfl rfl HB.out (by simp; omega) ?_; intro v3 w3 o3 g3)
          have G3 := Lib.hid (grown_own (gAlloc G2.out (.cells #[.int .i64 k] 3)) O2.out g3 (Nat.le_refl _))
          have R3 := Lib.hid ((R2.out.al (.cells #[.int .i64 k] 3)).row g3 (fun b hb e => by have := (World.ownsRow.lt O2.out b e.symm).1; omega))
          obtain ⟨ao3, cap3, rfl, _, _⟩ := o3.shape
          have O3 := Lib.hid o3
          clear o3 g3
          go_wp2
          go_roundw
          case rel => exact ⟨k + 1, zs ++ [(k : Int)], by omega, by go_num, ⟨_, _, rfl⟩, by simp; omega, O3, G3, R3⟩
          case measure => simp [intOf]; omega
        · have hv' : ((v2 : Int) == 0) = false := by simp; omega
          have O2 := Lib.hid o2
          have R2 := Lib.hid r2
          clear o2 g2 r2 ho hg hr
          go_wp2_with fail
          go_roundw
          case rel => exact ⟨k + 1, zs, by omega, by go_num, ⟨_, _, rfl⟩, hz, O2, G2, R2⟩
          case measure => simp [intOf]; omega
      · have hex : 40 ≤ k ∨ 20 ≤ zs.length := by omega
        clear hlt
        have tail : True := trivial
        rcases Nat.lt_or_ge k 40 with hk40 | hk40
        · have hzz : ¬ ((zs.length : Int) < 20) := by omega
          have hzd : decide ((zs.length : Int) < 20) = false := by simp; omega
          clear hzz
          go_wp2_with fail
          refine (pick_any _ 20 _ _ hr.out (by omega) (by omega) (by omega)).mono ?_
          rintro e w2 ⟨v2, rfl, k2, g2, r2⟩
          have o2 := OwnI.row ho.out g2 (fun k e => by simp at e; omega)
          have G2 := Lib.hid (grown_trans hg.out g2)
          by_cases hv : v2 = 0
          · subst hv
            clear ho hg hr
            go_wp2_with fail
            refine (pick_any _ 40 _ _ r2 (by omega) (by omega) (by omega)).mono ?_
            rintro e w3 ⟨v3, rfl, k3, g3, r3⟩
            have o3 := OwnI.row o2 g3 (fun k e => by simp at e; omega)
            have G3 := Lib.hid (grown_trans G2.out g3)
            have O3 := Lib.hid (OwnI.grown o3 (grown_alloc w3 (.cells #[.int .i64 v3] 3) none))
            have Y3 := Lib.hid (one_int w3 v3)
            have HB := Lib.hid (show w.heap.size ≤ (w3.alloc (.cells #[.int .i64 v3] 3)).heap.size by have := G3.out.size; simp; omega)
            have R3 := Lib.hid r3
            clear o2 o3 g2 g3 r2 r3
            go_wp2_with (at_builtin; refine app_ints rfl (.tmp 30) (.tmp 33) rfl O3.out Y3.out rfl rfl HB.out (by simp; omega) ?_; intro v4 w4 o4 g4)
            have G4 := Lib.hid (grown_own (gAlloc G3.out (.cells #[.int .i64 v3] 3)) O3.out g4 (Nat.le_refl _))
            have R4 := Lib.hid ((R3.out.al (.cells #[.int .i64 v3] 3)).row g4 (fun b hb e => by have := (World.ownsRow.lt O3.out b e.symm).1; omega))
            have O4 := Lib.hid o4
            clear o4 g4
            go_wp2
            go_ret
            exact list_post O4.out (by simp; omega) G4.out (R4.out.mono (by omega))
          · have hv' : ((v2 : Int) == 0) = false := by simp; omega
            have O2 := Lib.hid o2
            have R2 := Lib.hid r2
            clear o2 g2 r2 ho hg hr
            go_wp2_with fail
            go_ret
            exact list_post O2.out (by omega) G2.out (R2.out.mono (by omega))
        · go_wp2_with fail
          refine (pick_any _ 20 _ _ hr.out (by omega) (by omega) (by omega)).mono ?_
          rintro e w2 ⟨v2, rfl, k2, g2, r2⟩
          have o2 := OwnI.row ho.out g2 (fun k e => by simp at e; omega)
          have G2 := Lib.hid (grown_trans hg.out g2)
          by_cases hv : v2 = 0
          · subst hv
            clear ho hg hr
            go_wp2_with fail
            refine (pick_any _ 40 _ _ r2 (by omega) (by omega) (by omega)).mono ?_
            rintro e w3 ⟨v3, rfl, k3, g3, r3⟩
            have o3 := OwnI.row o2 g3 (fun k e => by simp at e; omega)
            have G3 := Lib.hid (grown_trans G2.out g3)
            have O3 := Lib.hid (OwnI.grown o3 (grown_alloc w3 (.cells #[.int .i64 v3] 3) none))
            have Y3 := Lib.hid (one_int w3 v3)
            have HB := Lib.hid (show w.heap.size ≤ (w3.alloc (.cells #[.int .i64 v3] 3)).heap.size by have := G3.out.size; simp; omega)
            have R3 := Lib.hid r3
            clear o2 o3 g2 g3 r2 r3
            go_wp2_with (at_builtin; refine app_ints rfl (.tmp 30) (.tmp 33) rfl O3.out Y3.out rfl rfl HB.out (by simp; omega) ?_; intro v4 w4 o4 g4)
            have G4 := Lib.hid (grown_own (gAlloc G3.out (.cells #[.int .i64 v3] 3)) O3.out g4 (Nat.le_refl _))
            have R4 := Lib.hid ((R3.out.al (.cells #[.int .i64 v3] 3)).row g4 (fun b hb e => by have := (World.ownsRow.lt O3.out b e.symm).1; omega))
            have O4 := Lib.hid o4
            clear o4 g4
            go_wp2
            go_ret
            exact list_post O4.out (by simp; omega) G4.out (R4.out.mono (by omega))
          · have hv' : ((v2 : Int) == 0) = false := by simp; omega
            have O2 := Lib.hid o2
            have R2 := Lib.hid r2
            clear o2 g2 r2 ho hg hr
            go_wp2_with fail
            go_ret
            exact list_post O2.out (by omega) G2.out (R2.out.mono (by omega))
  · have h0' : ((v1 : Int) == 0) = false := by simp; omega
    go_wp2_with fail
    go_loopw [3, 5] (fun v i wr => ∃ k : Nat, ∃ zs : List Int, k ≤ 40 ∧ i = .int .i64 k ∧ (∃ ao cap, v = .slice ao zs.length cap) ∧ zs.length ≤ 20 ∧ Hid (OwnI w.heap.size wr v zs) ∧ Hid (w.grownBy wr (some rb)) ∧ Hid (Rdr wr rb (c + 1 + k))) (fun _ i _ => 40 - (intOf i).toNat)
    case atStart => exact ⟨0, [], by omega, rfl, ⟨_, _, rfl⟩, by simp, O1, G1, R1⟩
    case round =>
      obtain ⟨k, zs, hk, rfl, ⟨ao, cap, rfl⟩, hz, ho, hg, hr⟩ := hrel
      by_cases hlt : k < 40 ∧ zs.length < 20
      · obtain ⟨ha, hb⟩ := hlt
        have hb' : (zs.length : Int) < 20 := by omega
        go_wp2_with fail
        refine (pick_any _ 3 _ _ hr.out (by omega) (by omega) (by omega)).mono ?_
        rintro e w2 ⟨v2, rfl, k2, g2, r2⟩
        have o2 := OwnI.row ho.out g2 (fun k e => by simp at e; omega)
        have G2 := Lib.hid (grown_trans hg.out g2)
        by_cases hv : v2 = 0
        · subst hv
          have O2 := Lib.hid (OwnI.grown o2 (grown_alloc w2 (.cells #[.int .i64 k] 3) none))
          have Y2 := Lib.hid (one_int w2 k)
          have HB := Lib.hid (show w.heap.size ≤ (w2.alloc (.cells #[.int .i64 k] 3)).heap.size by have := G2.out.size; simp; omega)
          have R2 := Lib.hid r2
          clear o2 g2 r2 ho hg hr
          go_wp2_with (at_builtin; refine app_ints rfl (.tmp 23) (.tmp 25) rfl O2.out Y2.out rfl rfl HB.out (by simp; omega) ?_; intro v3 w3 o3 g3)
          have G3 := Lib.hid (grown_own (gAlloc G2.out (.cells #[.int .i64 k] 3)) O2.out g3 (Nat.le_refl _))
          have R3 := Lib.hid ((R2.out.al (.cells #[.int .i64 k] 3)).row g3 (fun b hb e => by have := (World.ownsRow.lt O2.out b e.symm).1; omega))
          obtain ⟨ao3, cap3, rfl, _, _⟩ := o3.shape
          have O3 := Lib.hid o3
          clear o3 g3
          go_wp2
          go_roundw
          case rel => exact ⟨k + 1, zs ++ [(k : Int)], by omega, by go_num, ⟨_, _, rfl⟩, by simp; omega, O3, G3, R3⟩
          case measure => simp [intOf]; omega
        · have hv' : ((v2 : Int) == 0) = false := by simp; omega
          have O2 := Lib.hid o2
          have R2 := Lib.hid r2
          clear o2 g2 r2 ho hg hr
          go_wp2_with fail
          go_roundw
          case rel => exact ⟨k + 1, zs, by omega, by go_num, ⟨_, _, rfl⟩, hz, O2, G2, R2⟩
          case measure => simp [intOf]; omega
      · have hex : 40 ≤ k ∨ 20 ≤ zs.length := by omega
        clear hlt
        have tail : True := trivial
        rcases Nat.lt_or_ge k 40 with hk40 | hk40
        · have hzz : ¬ ((zs.length : Int) < 20) := by omega
          have hzd : decide ((zs.length : Int) < 20) = false := by simp; omega
          clear hzz
          go_wp2_with fail
          refine (pick_any _ 20 _ _ hr.out (by omega) (by omega) (by omega)).mono ?_
          rintro e w2 ⟨v2, rfl, k2, g2, r2⟩
          have o2 := OwnI.row ho.out g2 (fun k e => by simp at e; omega)
          have G2 := Lib.hid (grown_trans hg.out g2)
          by_cases hv : v2 = 0
          · subst hv
            clear ho hg hr
            go_wp2_with fail
            refine (pick_any _ 40 _ _ r2 (by omega) (by omega) (by omega)).mono ?_
            rintro e w3 ⟨v3, rfl, k3, g3, r3⟩
            have o3 := OwnI.row o2 g3 (fun k e => by simp at e; omega)
            have G3 := Lib.hid (grown_trans G2.out g3)
            have O3 := Lib.hid (OwnI.grown o3 (grown_alloc w3 (.cells #[.int .i64 v3] 3) none))
            have Y3 := Lib.hid (one_int w3 v3)
            have HB := Lib.hid (show w.heap.size ≤ (w3.alloc (.cells #[.int .i64 v3] 3)).heap.size by have := G3.out.size; simp; omega)
            have R3 := Lib.hid r3
            clear o2 o3 g2 g3 r2 r3
            go_wp2_with (at_builtin; refine app_ints rfl (.tmp 30) (.tmp 33) rfl O3.out Y3.out rfl rfl HB.out (by simp; omega) ?_; intro v4 w4 o4 g4)
            have G4 := Lib.hid (grown_own (gAlloc G3.out (.cells #[.int .i64 v3] 3)) O3.out g4 (Nat.le_refl _))
            have R4 := Lib.hid ((R3.out.al (.cells #[.int .i64 v3] 3)).row g4 (fun b hb e => by have := (World.ownsRow.lt O3.out b e.symm).1; omega))
            have O4 := Lib.hid o4
            clear o4 g4
            go_wp2
            go_ret
            exact list_post O4.out (by simp; omega) G4.out (R4.out.mono (by omega))
          · have hv' : ((v2 : Int) == 0) = false := by simp; omega
            have O2 := Lib.hid o2
            have R2 := Lib.hid r2
            clear o2 g2 r2 ho hg hr
            go_wp2_with fail
            go_ret
            exact list_post O2.out (by omega) G2.out (R2.out.mono (by omega))
        · go_wp2_with fail
          refine (pick_any _ 20 _ _ hr.out (by omega) (by omega) (by omega)).mono ?_
          rintro e w2 ⟨v2, rfl, k2, g2, r2⟩
          have o2 := OwnI.row ho.out g2 (fun k e => by simp at e; omega)
          have G2 := Lib.hid (grown_trans hg.out g2)
          by_cases hv : v2 = 0
          · subst hv
            clear ho hg hr
            go_wp2_with fail
            refine (pick_any _ 40 _ _ r2 (by omega) (by omega) (by omega)).mono ?_
            rintro e w3 ⟨v3, rfl, k3, g3, r3⟩
            have o3 := OwnI.row o2 g3 (fun k e => by simp at e; omega)
            have G3 := Lib.hid (grown_trans G2.out g3)
            have O3 := Lib.hid (OwnI.grown o3 (grown_alloc w3 (.cells #[.int .i64 v3] 3) none))
            have Y3 := Lib.hid (one_int w3 v3)
            have HB := Lib.hid (show w.heap.size ≤ (w3.alloc (.cells #[.int .i64 v3] 3)).heap.size by have := G3.out.size; simp; omega)
            have R3 := Lib.hid r3
            clear o2 o3 g2 g3 r2 r3
            go_wp2_with (at_builtin; refine app_ints rfl (.tmp 30) (.tmp 33) rfl O3.out Y3.out rfl rfl HB.out (by simp; omega) ?_; intro v4 w4 o4 g4)
            have G4 := Lib.hid (grown_own (gAlloc G3.out (.cells #[.int .i64 v3] 3)) O3.out g4 (Nat.le_refl _))
            have R4 := Lib.hid ((R3.out.al (.cells #[.int .i64 v3] 3)).row g4 (fun b hb e => by have := (World.ownsRow.lt O3.out b e.symm).1; omega))
            have O4 := Lib.hid o4
            clear o4 g4
            go_wp2
            go_ret
            exact list_post O4.out (by simp; omega) G4.out (R4.out.mono (by omega))
          · have hv' : ((v2 : Int) == 0) = false := by simp; omega
            have O2 := Lib.hid o2
            have R2 := Lib.hid r2
            clear o2 g2 r2 ho hg hr
            go_wp2_with fail
            go_ret
            exact list_post O2.out (by omega) G2.out (R2.out.mono (by omega))
end Go.Proofs.YtppkbmlbggokkaaDoor
