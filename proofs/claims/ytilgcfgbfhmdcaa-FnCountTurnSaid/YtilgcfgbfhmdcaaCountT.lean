/- The walk of FnCountTurn. -/
import Derived.Test.YtilgcfgbfhmdcaaAsgC
import Derived.Test.YtilgcfgbfhmdcaaDrawG
import Derived.Test.YtilgcfgbfhmdcaaCountQ
import Derived.WalkKit
import Derived.Lib.Hide
import Derived.Deep.QuietTactic
import Derived.BigQuiet
namespace Go.Proofs.Ytilgcfgbfhmdcaa
open Go.RowKit
def colL (rows : List (List Bool)) (i k : Nat) : List Bool := (List.range k).map fun k => (rows.getD k []).getD i false
theorem colL_len (rows : List (List Bool)) (i k : Nat) : (colL rows i k).length = k := by simp [colL]
theorem colL_step (rows : List (List Bool)) (i k : Nat) : colL rows i (k + 1) = colL rows i k ++ [(rows.getD k []).getD i false] := by simp [colL, List.range_succ]
theorem turnT_len (rows : List (List Bool)) (n i : Nat) : (turnT rows n i).length = i := by simp [turnT]
theorem turnT_step (rows : List (List Bool)) (n i : Nat) : turnT rows n (i + 1) = turnT rows n i ++ [colL rows i n] := by simp [turnT, colL, List.range_succ]
set_option maxHeartbeats 4000000 in
theorem fnCountTurn_walk (ao : Option Addr) (n cap : Nat) (w : World) (h1 : CodeAt w ao n cap) :
    Calls Try.prog 8 #[.slice ao n cap] w fun e w' => e = .returned (.bool true) ∧ w.grownBy w' none := by
  by_cases a : (1048576 : Int) < n
  · go_enter Try.func8, Try.ntmps8
    go_wp2
    go_ret
    exact ⟨rfl, grown_refl _ _⟩
  · go_enter Try.func8, Try.ntmps8
    go_wp2_with fail
    refine (drawAssignCount_any _ _ _ _ h1).mono ?_
    rintro e w1 ⟨rows, a1, c1, l1, rfl, t1, g1⟩
    go_wp2_with fail
    refine (assignCount_any _ _ _ _ _ t1).mono ?_
    rintro e w2 ⟨rfl, rfl⟩
    go_wp2_with fail
    refine (assignCountS_any _ _ _ _ _ t1).mono ?_
    rintro e w3 ⟨rfl, g3⟩
    have G3 := Lib.hid (grown_trans g1 g3)
    have T3 := Lib.hid (t1.grown g3)
    obtain ⟨N, hN⟩ : ∃ N, rows.length = N := ⟨_, rfl⟩
    rw [hN]
    rw [hN] at T3 l1
    have HN := Lib.hid hN
    clear g1 g3 t1 hN
    by_cases hgp : GridP rows
    case neg =>
      have A3 := acount_no hgp
      have A4 : acount rows < 0 := by rw [A3]; omega
      clear A3
      go_wp2_with fail
      go_ret
      exact ⟨rfl, G3.out⟩
    case pos =>
      have A3 := acount_nonneg hgp
      have hN1 : 1 ≤ N := by have := hgp.1; have := HN.out; omega
      have hN5 : N ≤ 5 := l1
      have O0 := Lib.hid (OwnG.now (ownG_nil w3.heap.size w3 (Nat.le_refl _)))
      have G0 := Lib.hid (grown_alloc w3 (.cells #[] 30) none)
      have A4 : ¬ acount rows < 0 := by omega
      have HG := Lib.hid hgp
      clear A3 hgp
      go_wp2_with fail
      go_loopw [6, 7] (fun v q wr => ∃ i : Nat, i ≤ N ∧ q = .int .i64 i ∧ Hid (OwnG w3.heap.size wr.heap.size wr v (turnT rows N i)) ∧ Hid (w3.grownBy wr none)) (fun _ q _ => N - (intOf q).toNat)
      case atStart => exact ⟨0, by omega, rfl, O0, G0⟩
      case round =>
        clear O0 G0
        obtain ⟨i, hi, rfl, ho, hg⟩ := hrel
        obtain ⟨wo, rfl⟩ : ∃ wo : World, wo = wr := ⟨_, rfl⟩
        have zo := hg.out.size
        by_cases hin : i < N
        · have I0 := Lib.hid (own_nilB wo.heap.size wo (Nat.le_refl _))
          have T0 := Lib.hid (OwnG.grown ho.out (grown_alloc wo (.cells #[] 4) none))
          have G1 := Lib.hid (gAlloc hg.out (.cells #[] 4))
          have Z1 := Lib.hid (show wo.heap.size ≤ (wo.alloc (.cells #[] 4)).heap.size by simp)
          clear hg ho
          go_wp2_with fail
          go_loopw [8, 9] (fun x q wi => ∃ k : Nat, k ≤ N ∧ q = .int .i64 k ∧ Hid (OwnB wo.heap.size wi x (colL rows i k)) ∧ Hid (OwnG w3.heap.size wo.heap.size wi u6 (turnT rows N i)) ∧ Hid (w3.grownBy wi none) ∧ Hid (wo.heap.size ≤ wi.heap.size)) (fun _ q _ => N - (intOf q).toNat)
          case atStart => exact ⟨0, by omega, rfl, I0, T0, G1, Z1⟩
          case round =>
            clear I0 T0 G1 Z1
            obtain ⟨k, hk, rfl, hx, ht, hg, hz⟩ := hrel
            by_cases hkn : k < N
            · obtain ⟨b, off, ro, rc, rfl, cc, hr⟩ := (T3.out.grown hg.out).at k hkn
              rw [HG.out.2 k (by rw [HN.out]; exact hkn), HN.out] at cc hr
              obtain ⟨b2, off2, rfl, _, c2⟩ := hr.get i hin
              clear hr
              obtain ⟨z, hzz⟩ : ∃ z, (rows.getD k []).getD i false = z := ⟨_, rfl⟩
              rw [hzz] at c2
              have HZ := Lib.hid hzz
              clear hzz
              have Y := Lib.hid (one_bool wr (z))
              have O5 := Lib.hid (OwnB.grown hx.out (grown_alloc wr (.cells #[.bool (z)] 4) none))
              have T5 := Lib.hid (OwnG.grown ht.out (grown_alloc wr (.cells #[.bool (z)] 4) none))
              have G5 := Lib.hid (gAlloc hg.out (.cells #[.bool (z)] 4))
              have HB := Lib.hid (show wo.heap.size ≤ (wr.alloc (.cells #[.bool (z)] 4)).heap.size by have := hz.out; simp; omega)
              clear hx ht hg
              go_wp2_with (at_builtin; refine app_bools rfl (.tmp 43) (.tmp 51) rfl O5.out Y.out rfl rfl HB.out (by rw [colL_len]; simp; omega) ?_; intro v9 w9 o9 g9; refine Hid.out ?_)
              show wpList _ _ _ _ _ _
              have bnd := fun k e => (World.ownsRow.lt O5.out k e).1
              have T9 := Lib.hid (OwnG.row T5.out g9 (fun k e => .inr (bnd k e)))
              have G9 := Lib.hid (grown_own G5.out O5.out g9 (by omega))
              have Z9 := Lib.hid (Nat.le_trans HB.out g9.size)
              have O9 := Lib.hid o9
              clear bnd o9 g9 O5 T5 G5 Y HB
              go_wp2
              go_roundw
              case rel => exact ⟨k + 1, by omega, by go_num, by rw [colL_step, HZ.out]; exact O9, T9, G9, Z9⟩
              case measure => simp [intOf]; omega
            · obtain rfl : k = N := by omega
              have Y := Lib.hid (one_row wr u8)
              have O2 := Lib.hid (OwnB.grown hx.out (grown_alloc wr (.cells #[u8] 30) none))
              have T2 := Lib.hid (OwnG.grown ht.out (grown_alloc wr (.cells #[u8] 30) none))
              have G2 := Lib.hid (gAlloc hg.out (.cells #[u8] 30))
              have HB := Lib.hid (show wo.heap.size ≤ (wr.alloc (.cells #[u8] 30)).heap.size by have := hz.out; simp; omega)
              have SH := OwnB.shape hx.out
              simp only [colL_len] at SH
              obtain ⟨q1, q2, rfl, _⟩ := SH
              clear hx ht hg hz
              go_wp2_with (at_builtin; refine app_grid rfl (.tmp 53) (.tmp 55) rfl T2.out O2.out Y.out rfl rfl zo HB.out (by rw [turnT_len]; omega) ?_; intro v9 w9 o9 g9; refine Hid.out ?_)
              show wpList _ _ _ _ _ _
              obtain ⟨vs9, hh9⟩ := OwnTab.spine T2.out
              have gg9 := grown_own G2.out hh9 g9 (Nat.le_refl _)
              have O9 := Lib.hid o9
              have G9 := Lib.hid gg9
              clear gg9 hh9 vs9 o9 g9 T2 O2 G2 Y HB
              go_wp2
              go_roundw
              case rel => exact ⟨i + 1, by omega, by go_num, by rw [turnT_step]; exact O9, G9⟩
              case measure => simp [intOf]; omega
        · have hin' : i = N := by omega
          subst hin'
          have SH := ho.out.shape
          rw [turnT_len] at SH
          obtain ⟨q1, q2, rfl, hga⟩ := SH
          have HF := Lib.hid (acount_turn HG.out i HN.out)
          go_wp2_with fail
          refine (assignCount_any _ _ _ _ _ hga).mono ?_
          rintro e w9 ⟨rfl, rfl⟩
          rw [HF.out]
          go_wp2_with fail
          go_ret
          exact ⟨rfl, grown_trans G3.out hg.out⟩
end Go.Proofs.Ytilgcfgbfhmdcaa
