/- The walk of FnCountOne. -/
import Derived.Test.YtilgcfgbfhmdcaaAsgC
import Derived.Test.YtilgcfgbfhmdcaaDrawG
import Derived.Test.YtilgcfgbfhmdcaaCountP
import Derived.WalkKit
import Derived.Lib.Hide
import Derived.Deep.QuietTactic
import Derived.BigQuiet
namespace Go.Proofs.Ytilgcfgbfhmdcaa
open Go.RowKit
def ownI (n i : Nat) : List (List Bool) := (List.range i).map fun k => (List.replicate n false).set k true
theorem ownI_len (n i : Nat) : (ownI n i).length = i := by simp [ownI]
theorem ownI_step (n i : Nat) : ownI n (i + 1) = ownI n i ++ [(List.replicate n false).set i true] := by simp [ownI, List.range_succ]
theorem acount_ownI (n : Nat) (h1 : 1 ≤ n) (h5 : n ≤ 5) : acount (ownI n n) = 1 := acount_own n h1 h5
/-- a fresh row, one cell set -/
theorem row_set {w w1 : World} {N : Nat} (i : Nat) (hi : i < N) (h : OwnB w.heap.size w1 (.slice (some ⟨w.heap.size, 0, none⟩) N N) (List.replicate N false)) :
    (∃ v0, w1.cell? ⟨w.heap.size, i, none⟩ = some v0) ∧ w1.frozen? ⟨w.heap.size, i, none⟩ = false ∧ OwnB w.heap.size (w1.setCell ⟨w.heap.size, i, none⟩ (.bool true)) (.slice (some ⟨w.heap.size, 0, none⟩) N N) ((List.replicate N false).set i true) := by
  obtain ⟨g, e1, _, _, _, hc, hf, hs⟩ := Own.at h (by simp; omega)
  simp only [Option.some.injEq, Addr.mk.injEq, and_true] at e1
  subst e1
  refine ⟨⟨.bool false, hc i _ (by simp [hi])⟩, hf i, ?_⟩
  have := hs i (.bool true)
  unfold OwnB
  rw [List.map_set]
  exact this
set_option maxHeartbeats 4000000 in
theorem fnCountOne_walk (ao : Option Addr) (n cap : Nat) (w : World) (h1 : CodeAt w ao n cap) :
    Calls Try.prog 6 #[.slice ao n cap] w fun e w' => e = .returned (.bool true) ∧ w.grownBy w' none := by
  obtain ⟨i0, hi0, hz0, hz1, hz2⟩ := info_parts info_bool
  by_cases a : (1048576 : Int) < n
  · go_enter Try.func6, Try.ntmps6
    go_wp2
    go_ret
    exact ⟨rfl, grown_refl _ _⟩
  · go_enter Try.func6, Try.ntmps6
    go_wp2_with fail
    refine (drawAssignCount_any _ _ _ _ h1).mono ?_
    rintro e w1 ⟨rows, a1, c1, l1, rfl, t1, g1⟩
    go_wp2_with fail
    refine (assignCount_any _ _ _ _ _ t1).mono ?_
    rintro e w2 ⟨rfl, rfl⟩
    go_wp2_with fail
    refine (assignCountS_any _ _ _ _ _ t1).mono ?_
    rintro e w3 ⟨rfl, g3⟩
    have G3 := Lib.hid (grown_trans g1 g3)
    have T3 := Lib.hid (t1.grown g3)
    obtain ⟨N, hN⟩ : ∃ N, rows.length = N := ⟨_, rfl⟩
    rw [hN]
    rw [hN] at T3 l1
    have HN := Lib.hid hN
    clear g1 g3 t1 hN
    by_cases hgp : GridP rows
    case neg =>
      have A3 := acount_no hgp
      have A4 : acount rows < 0 := by rw [A3]; omega
      clear A3
      go_wp2_with fail
      go_ret
      exact ⟨rfl, G3.out⟩
    case pos =>
      have A3 := acount_nonneg hgp
      have hN1 : 1 ≤ N := by have := hgp.1; have := HN.out; omega
      have hN5 : N ≤ 5 := l1
      have O0 := Lib.hid (OwnG.grown (OwnG.now (ownG_nil w.heap.size w3 G3.out.size)) (grown_alloc _ (.cells #[] 30) none))
      have G00 := gAlloc G3.out (.cells #[] 30)
      have N00 := OwnG.now (ownG_nil w.heap.size (w3.alloc (.cells #[] 30)) G00.size)
      rw [show (w3.alloc (.cells #[] 30)).heap.size = w3.heap.size + 1 by simp] at N00
      have N0 := Lib.hid N00
      have G0 := Lib.hid (gAlloc G00 (.cells #[] 30))
      have A4 : ¬ acount rows < 0 := by omega
      clear G3 A3 G00 N00
      go_wp2_with fail
      go_loopw [6, 7, 8] (fun v f q wr => ∃ i : Nat, i ≤ N ∧ q = .int .i64 i ∧ Hid (OwnG w.heap.size wr.heap.size wr v (ownI N i)) ∧ Hid (OwnG w.heap.size wr.heap.size wr f (List.replicate i (List.replicate N false))) ∧ Hid (Sep v f) ∧ Hid (w.grownBy wr none)) (fun _ _ q _ => N - (intOf q).toNat)
      case atStart => exact ⟨0, by omega, rfl, Lib.hid (OwnG.now O0.out), Lib.hid N0.out, Lib.hid (.inr (by simp [Value.ownBlock])), G0⟩
      case round =>
        clear O0 G0 N0
        obtain ⟨i, hi, rfl, ho, hn, hs, hg⟩ := hrel
        have zo := hg.out.size
        by_cases hin : i < N
        · go_wp2_with (at_make; refine wpList_make_full wr rfl _ _ 30 rfl wr.heap.size 4 i0 (.bool false) 1 Try.underlying30 hi0 hz0 hz1 .i64 .i64 N N N rfl rfl rfl rfl (by rw [hz2]; omega) (by unfold maxLen; omega) (Nat.le_refl _) ?_; intro w1 o1 g1; refine Hid.out ?_)
          show wpList _ _ _ _ _ _
          rw [made_bools] at o1
          have o2 : OwnB wr.heap.size w1 (.slice (some ⟨wr.heap.size, 0, none⟩) N N) (List.replicate N false) := by
            unfold OwnB Own
            simpa using o1
          obtain ⟨⟨v0, c2⟩, f2, o3⟩ := row_set i hin o2
          have g2 := gSet hg.out (p := ⟨wr.heap.size, i, none⟩) zo (.bool true)
          have T1 := (ho.out.grown g1).row (grown_set w1 wr.heap.size i (.bool true)) (fun k e => .inr (by simp at e; omega))
          have E1 := (hn.out.grown g1).row (grown_set w1 wr.heap.size i (.bool true)) (fun k e => .inr (by simp at e; omega))
          have g2 := gSet (grown_trans hg.out g1) (p := ⟨wr.heap.size, i, none⟩) zo (.bool true)
          have z2 : wr.heap.size ≤ (w1.setCell ⟨wr.heap.size, i, none⟩ (.bool true)).heap.size := by
            have := g1.size
            simp [World.setCell]; omega
          clear g1 o2 o1 ho hn hg
          obtain ⟨w2, hw2⟩ : ∃ w2, w1.setCell ⟨wr.heap.size, i, none⟩ (.bool true) = w2 := ⟨_, rfl⟩
          rw [hw2] at o3 T1 E1 g2 z2
          have O3 := Lib.hid (OwnB.grown o3 (grown_alloc w2 (.cells #[.slice (some ⟨wr.heap.size, 0, none⟩) N N] 30) none))
          have T3' := Lib.hid (OwnG.grown T1 (grown_alloc w2 (.cells #[.slice (some ⟨wr.heap.size, 0, none⟩) N N] 30) none))
          have E3' := Lib.hid (OwnG.grown E1 (grown_alloc w2 (.cells #[.slice (some ⟨wr.heap.size, 0, none⟩) N N] 30) none))
          have G3 := Lib.hid (gAlloc g2 (.cells #[.slice (some ⟨wr.heap.size, 0, none⟩) N N] 30))
          have Y := Lib.hid (one_row w2 (.slice (some ⟨wr.heap.size, 0, none⟩) N N))
          have Z3 := Lib.hid (show wr.heap.size ≤ (w2.alloc (.cells #[.slice (some ⟨wr.heap.size, 0, none⟩) N N] 30)).heap.size by simp; omega)
          clear o3 T1 E1 g2 z2
          go_wp2_with (first | (at_builtin; refine app_grid_at rfl (.tmp 43) (.tmp 45) rfl T3'.out O3.out Y.out rfl rfl zo Z3.out (by rw [ownI_len]; omega) ?_; intro v9 w9 o9 g9 s9; refine Hid.out ?_))
          show wpList _ _ _ _ _ _
          have E9 := E3'.out.apart T3'.out (hs.out.symm) g9
          have G9 : w.grownBy w9 none := by
            obtain ⟨vs, hh1⟩ := OwnTab.spine T3'.out
            exact grown_own G3.out hh1 g9 (Nat.le_refl _)
          have S9 : Sep u7 v9 := hs.out.symm.step (OwnTab.below E3'.out) s9
          have Z9 := Nat.le_trans Z3.out g9.size
          clear O3 T3' E3' G3 Y Z3 g9 s9 hs
          go_wp2_with (at_make; refine wpList_make_full w9 rfl _ _ 30 rfl w9.heap.size 4 i0 (.bool false) 1 Try.underlying30 hi0 hz0 hz1 .i64 .i64 N N N rfl rfl rfl rfl (by rw [hz2]; omega) (by unfold maxLen; omega) (Nat.le_refl _) ?_; intro w10 o10 g10; refine Hid.out ?_)
          show wpList _ _ _ _ _ _
          rw [made_bools] at o10
          have p10 : OwnB w9.heap.size w10 (.slice (some ⟨w9.heap.size, 0, none⟩) N N) (List.replicate N false) := by
            unfold OwnB Own
            simpa using o10
          have O3 := Lib.hid (OwnB.grown p10 (grown_alloc w10 (.cells #[.slice (some ⟨w9.heap.size, 0, none⟩) N N] 30) none))
          have T3' := Lib.hid (OwnG.grown (o9.grown g10) (grown_alloc w10 (.cells #[.slice (some ⟨w9.heap.size, 0, none⟩) N N] 30) none))
          have E3' := Lib.hid (OwnG.grown ((E9.now).grown g10) (grown_alloc w10 (.cells #[.slice (some ⟨w9.heap.size, 0, none⟩) N N] 30) none))
          have G3 := Lib.hid (gAlloc (grown_trans G9 g10) (.cells #[.slice (some ⟨w9.heap.size, 0, none⟩) N N] 30))
          have Y := Lib.hid (one_row w10 (.slice (some ⟨w9.heap.size, 0, none⟩) N N))
          have Z3 := Lib.hid (show w9.heap.size ≤ (w10.alloc (.cells #[.slice (some ⟨w9.heap.size, 0, none⟩) N N] 30)).heap.size by have := g10.size; simp; omega)
          have Z9' := Lib.hid (show w.heap.size ≤ w9.heap.size by omega)
          have HS9 := Lib.hid S9
          clear p10 o9 g10 o10 E9 G9 S9 Z9
          go_wp2_with (first | (at_builtin; refine app_grid_at rfl (.tmp 47) (.tmp 51) rfl E3'.out O3.out Y.out rfl rfl Z9'.out Z3.out (by rw [List.length_replicate]; omega) ?_; intro v11 w11 o11 g11 s11; refine Hid.out ?_))
          show wpList _ _ _ _ _ _
          have T11 := Lib.hid ((OwnG.now (T3'.out.apart E3'.out HS9.out.symm g11)))
          have S11 := Lib.hid (HS9.out.symm.step (OwnTab.below T3'.out) s11)
          have G11 : w.grownBy w11 none := by
            obtain ⟨vs, hh1⟩ := OwnTab.spine E3'.out
            exact grown_own G3.out hh1 g11 (Nat.le_refl _)
          have HG11 := Lib.hid G11
          have O11 := Lib.hid o11
          clear O3 T3' E3' G3 Y Z3 g11 s11 HS9 G11 o11 Z9'
          go_wp2
          go_roundw
          case rel => exact ⟨i + 1, by omega, by go_num, by rw [ownI_step]; exact T11, by rw [List.replicate_succ']; exact O11, S11, HG11⟩
          case measure => simp [intOf]; omega
        · have hin' : i = N := by omega
          subst hin'
          have SH := ho.out.shape
          rw [ownI_len] at SH
          obtain ⟨q1, q2, rfl, hga⟩ := SH
          have SN := hn.out.shape
          rw [List.length_replicate] at SN
          obtain ⟨q3, q4, rfl, hgn⟩ := SN
          have HF := Lib.hid (acount_ownI i hN1 hN5)
          have HE := Lib.hid (show acount (List.replicate i (List.replicate i false)) = 0 from acount_none i hN1 hN5)
          go_wp2_with fail
          refine (assignCount_any _ _ _ _ _ hga).mono ?_
          rintro e w9 ⟨rfl, rfl⟩
          rw [HF.out]
          go_wp2_with fail
          refine (assignCount_any _ _ _ _ _ hgn).mono ?_
          rintro e w9 ⟨rfl, rfl⟩
          rw [HE.out]
          go_wp2_with fail
          go_ret
          exact ⟨rfl, hg.out⟩
end Go.Proofs.Ytilgcfgbfhmdcaa
