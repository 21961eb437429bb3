/- Drawn lists of numbers. -/
import Derived.Test.YtedpkhboepahgaaOpen
import Derived.Test.YtedpkhboepahgaaInts
import Derived.WalkKit
import Derived.Lib.Hide
import Derived.Deep.QuietTactic
import Derived.BigQuiet
namespace Go.Proofs.Ytedpkhboepahgaa
open Go.RowKit
/-- a drawn list: of the call's own, not too long -/
def ListPost (L : Nat) (rb c : Nat) (w : World) (e : Ending) (w' : World) : Prop :=
  ∃ zs : List Int, ∃ ao cap, zs.length ≤ L ∧ e = .returned (.slice ao zs.length cap) ∧ OwnI w.heap.size w' (.slice ao zs.length cap) zs ∧ w.grownBy w' (some rb) ∧ Rdr w' rb c
theorem list_post {L rb c : Nat} {w w' : World} {v : Value} {zs : List Int} (h : OwnI w.heap.size w' v zs) (hl : zs.length ≤ L) (hg : w.grownBy w' (some rb)) (hr : Rdr w' rb c) : ListPost L rb c w (.returned v) w' := by
  obtain ⟨ao, cap, rfl, _, _⟩ := h.shape
  exact ⟨zs, ao, cap, hl, rfl, h, hg, hr⟩
set_option maxHeartbeats 4000000 in
theorem l91List_any (rb c M : Nat) (hM : M ≤ 100) (w : World) (hr : Rdr w rb c) (hc : c ≤ 800000) :
    Calls Try.prog 64 #[.pointer (some ⟨rb, 0, none⟩), .int .i64 M] w (ListPost (M + 2) rb (c + 400) w) := by
  have hlt := hr.lt
  have r0 := hr.al (.cells #[] 3)
  have O0 := Lib.hid (own_nil w.heap.size w (Nat.le_refl _))
  go_enter Try.func64, Try.ntmps64
  go_wp2_with fail
  refine (pick_any _ ((M : Int) + 1) _ _ r0 (by omega) (by omega) (by omega)).mono ?_
  rintro e w1 ⟨v1, rfl, k1, g1, r1⟩
  have O1 := Lib.hid (OwnI.row O0.out g1 (fun k e => by simp at e; omega))
  have G1 := Lib.hid (grown_trans (grown_alloc w (.cells #[] 3) (some rb)) g1)
  clear O0 r0 hr g1
  go_wp2_with fail
  refine (pick_any _ 24 _ _ r1 (by omega) (by omega) (by omega)).mono ?_
  rintro e w2 ⟨v2, rfl, k2, g2, r2⟩
  have O2 := Lib.hid (OwnI.row O1.out g2 (fun k e => by simp at e; omega))
  have G2 := Lib.hid (grown_trans G1.out g2)
  clear O1 G1 g2 r1
  by_cases h0 : v2 = 0
  · subst h0
    go_wp2_with fail
    refine (pick_any _ 3 _ _ r2 (by omega) (by omega) (by omega)).mono ?_
    rintro e w3 ⟨v3, rfl, k3, g3, r3⟩
    have O3 := Lib.hid (OwnI.row O2.out g3 (fun k e => by simp at e; omega))
    have G3 := Lib.hid (grown_trans G2.out g3)
    have R3 := Lib.hid r3
    clear O2 G2 g3 r2 r3
    go_wp2_with fail
    go_loopw [5, 7] (fun v i wr => ∃ k : Nat, ∃ zs : List Int, (k : Int) ≤ ((M : Int) + (v3 : Int)) ∧ i = .int .i64 k ∧ zs.length = k ∧ Hid (OwnI w.heap.size wr v zs) ∧ Hid (w.grownBy wr (some rb)) ∧ Hid (Rdr wr rb (c + 3 + k * 3))) (fun _ i _ => (((M : Int) + (v3 : Int))).toNat - (intOf i).toNat)
    case atStart => exact ⟨0, [], by omega, rfl, rfl, O3, G3, R3⟩
    case round =>
      clear O3 G3 R3
      obtain ⟨k, zs, hk, rfl, hzl, ho, hg, hr⟩ := hrel
      have HZ := Lib.hid hzl
      clear hzl
      by_cases hlt : (k : Int) < ((M : Int) + (v3 : Int))
      · go_wp2_with fail
        refine (l91Number_any _ _ _ hr.out (by omega)).mono ?_
        rintro e w2 ⟨z, rfl, hz, g2, r2⟩
        have o2 := OwnI.row ho.out g2 (fun k e => by simp at e; omega)
        have G2 := Lib.hid (gAlloc (grown_trans hg.out g2) (.cells #[.int .i64 z] 3))
        have O2 := Lib.hid (OwnI.grown o2 (grown_alloc w2 (.cells #[.int .i64 z] 3) none))
        have Y2 := Lib.hid (one_int w2 z)
        have HB := Lib.hid (show w.heap.size ≤ (w2.alloc (.cells #[.int .i64 z] 3)).heap.size from G2.out.size)
        have R2 := Lib.hid (r2.al (.cells #[.int .i64 z] 3))
        clear o2 g2 r2 ho hg hr hz
        go_wp2_with (at_builtin; refine app_ints rfl (.tmp 25) (.tmp 28) rfl O2.out Y2.out rfl rfl HB.out (by rw [HZ.out]; simp; omega) ?_; intro v3 w3 o3 g3)
        have G3 := Lib.hid (grown_own G2.out O2.out g3 (Nat.le_refl _))
        have R3 := Lib.hid (R2.out.row g3 (fun b hb e => by have := (World.ownsRow.lt O2.out b e.symm).1; omega))
        have O3 := Lib.hid o3
        clear o3 g3 O2 G2 Y2 HB R2
        go_wp2
        go_roundw
        case rel => exact ⟨k + 1, zs ++ [z], by omega, by go_num, by simp [HZ.out], O3, G3, Lib.hid (R3.out.mono (by omega))⟩
        case measure => simp [intOf]; omega
      · go_wp2_with fail
        go_ret
        exact list_post ho.out (by rw [HZ.out]; omega) hg.out (hr.out.mono (by omega))
  · have h0' : ((v2 : Int) == 0) = false := by simp; omega
    have R2 := Lib.hid (r2.mono (show _ ≤ c + 3 by omega))
    clear r2
    go_wp2_with fail
    go_loopw [5, 7] (fun v i wr => ∃ k : Nat, ∃ zs : List Int, (k : Int) ≤ (v1 : Int) ∧ i = .int .i64 k ∧ zs.length = k ∧ Hid (OwnI w.heap.size wr v zs) ∧ Hid (w.grownBy wr (some rb)) ∧ Hid (Rdr wr rb (c + 3 + k * 3))) (fun _ i _ => ((v1 : Int)).toNat - (intOf i).toNat)
    case atStart => exact ⟨0, [], by omega, rfl, rfl, O2, G2, R2⟩
    case round =>
      clear O2 G2 R2
      obtain ⟨k, zs, hk, rfl, hzl, ho, hg, hr⟩ := hrel
      have HZ := Lib.hid hzl
      clear hzl
      by_cases hlt : (k : Int) < (v1 : Int)
      · go_wp2_with fail
        refine (l91Number_any _ _ _ hr.out (by omega)).mono ?_
        rintro e w2 ⟨z, rfl, hz, g2, r2⟩
        have o2 := OwnI.row ho.out g2 (fun k e => by simp at e; omega)
        have G2 := Lib.hid (gAlloc (grown_trans hg.out g2) (.cells #[.int .i64 z] 3))
        have O2 := Lib.hid (OwnI.grown o2 (grown_alloc w2 (.cells #[.int .i64 z] 3) none))
        have Y2 := Lib.hid (one_int w2 z)
        have HB := Lib.hid (show w.heap.size ≤ (w2.alloc (.cells #[.int .i64 z] 3)).heap.size from G2.out.size)
        have R2 := Lib.hid (r2.al (.cells #[.int .i64 z] 3))
        clear o2 g2 r2 ho hg hr hz
        go_wp2_with (at_builtin; refine app_ints rfl (.tmp 25) (.tmp 28) rfl O2.out Y2.out rfl rfl HB.out (by rw [HZ.out]; simp; omega) ?_; intro v3 w3 o3 g3)
        have G3 := Lib.hid (grown_own G2.out O2.out g3 (Nat.le_refl _))
        have R3 := Lib.hid (R2.out.row g3 (fun b hb e => by have := (World.ownsRow.lt O2.out b e.symm).1; omega))
        have O3 := Lib.hid o3
        clear o3 g3 O2 G2 Y2 HB R2
        go_wp2
        go_roundw
        case rel => exact ⟨k + 1, zs ++ [z], by omega, by go_num, by simp [HZ.out], O3, G3, Lib.hid (R3.out.mono (by omega))⟩
        case measure => simp [intOf]; omega
      · go_wp2_with fail
        go_ret
        exact list_post ho.out (by rw [HZ.out]; omega) hg.out (hr.out.mono (by omega))
end Go.Proofs.Ytedpkhboepahgaa
