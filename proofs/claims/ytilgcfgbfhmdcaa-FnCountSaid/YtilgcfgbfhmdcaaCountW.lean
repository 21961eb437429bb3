/- The walks of FnCount and FnCountOne. -/
import Derived.Test.YtilgcfgbfhmdcaaAsgC
import Derived.Test.YtilgcfgbfhmdcaaDrawG
import Derived.Test.YtilgcfgbfhmdcaaCountP
import Derived.WalkKit
import Derived.Lib.Hide
import Derived.Deep.QuietTactic
import Derived.BigQuiet
namespace Go.Proofs.Ytilgcfgbfhmdcaa
open Go.RowKit
set_option maxHeartbeats 4000000 in
theorem fnCount_walk (ao : Option Addr) (n cap : Nat) (w : World) (h1 : CodeAt w ao n cap) :
    Calls Try.prog 4 #[.slice ao n cap] w fun e w' => e = .returned (.bool true) ∧ w.grownBy w' none := by
  by_cases a : (1048576 : Int) < n
  · go_enter Try.func4, Try.ntmps4
    go_wp2
    go_ret
    exact ⟨rfl, grown_refl _ _⟩
  · go_enter Try.func4, Try.ntmps4
    go_wp2_with fail
    refine (drawAssignCount_any _ _ _ _ h1).mono ?_
    rintro e w1 ⟨rows, a1, c1, l1, rfl, t1, g1⟩
    go_wp2_with fail
    refine (assignCount_any _ _ _ _ _ t1).mono ?_
    rintro e w2 ⟨rfl, rfl⟩
    go_wp2_with fail
    refine (assignCountS_any _ _ _ _ _ t1).mono ?_
    rintro e w3 ⟨rfl, g3⟩
    have G3 := Lib.hid (grown_trans g1 g3)
    have T3 := Lib.hid (t1.grown g3)
    obtain ⟨N, hN⟩ : ∃ N, rows.length = N := ⟨_, rfl⟩
    rw [hN]
    rw [hN] at T3 l1
    have HN := Lib.hid hN
    clear g1 g3 t1 hN
    by_cases hgp : GridP rows
    case neg =>
      have A3 := acount_no hgp
      have A4 : acount rows < 0 := by rw [A3]; omega
      clear A3
      go_wp2_with fail
      go_ret
      exact ⟨rfl, G3.out⟩
    case pos =>
      have A3 := acount_nonneg hgp
      have hN1 : 1 ≤ N := by have := hgp.1; have := HN.out; omega
      have hN5 : N ≤ 5 := l1
      have O0 := Lib.hid (OwnG.now (ownG_nil w.heap.size w3 G3.out.size))
      have G0 := Lib.hid (gAlloc G3.out (.cells #[] 30))
      have FL := Lib.hid (fun i (hi : i ≤ N) => factN_le i (by omega))
      have z3 := G3.out.size
      have A3' := Lib.hid A3
      have A4 : ¬ acount rows < 0 := by omega
      clear G3 A3
      go_wp2_with fail
      go_loopw [6, 7, 8] (fun v f q wr => ∃ i : Nat, i ≤ N ∧ q = .int .i64 i ∧ f = .int .i64 (factN i : Nat) ∧ Hid (OwnG w.heap.size wr.heap.size wr v (List.replicate i (List.replicate N true))) ∧ Hid (w.grownBy wr none)) (fun _ _ q _ => N - (intOf q).toNat)
      case atStart => exact ⟨0, by omega, rfl, rfl, O0, G0⟩
      case round =>
        clear O0 G0
        obtain ⟨i, hi, rfl, rfl, ho, hg⟩ := hrel
        obtain ⟨wo, rfl⟩ : ∃ wo : World, wo = wr := ⟨_, rfl⟩
        have zo := hg.out.size
        by_cases hin : i < N
        · have f0 := FL.out i hi
          have fm : (factN i : Int) * ((i : Int) + 1) ≤ 120 * 6 := by
            have := Int.mul_le_mul (a := (factN i : Int)) (c := 120) (b := (i : Int) + 1) (d := 6) (by omega) (by omega) (by omega) (by omega)
            omega
          have fp : 0 ≤ (factN i : Int) * ((i : Int) + 1) := Int.mul_nonneg (by omega) (by omega)
          have I0 := Lib.hid (own_nilB wo.heap.size wo (Nat.le_refl _))
          have T0 := Lib.hid (OwnG.grown ho.out (grown_alloc wo (.cells #[] 4) none))
          have G1 := Lib.hid (gAlloc hg.out (.cells #[] 4))
          have Z1 := Lib.hid (show wo.heap.size ≤ (wo.alloc (.cells #[] 4)).heap.size by simp)
          clear hg ho
          go_wp2_with fail
          go_loopw [9, 10] (fun x q wi => ∃ k : Nat, k ≤ N ∧ q = .int .i64 k ∧ Hid (OwnB wo.heap.size wi x (List.replicate k true)) ∧ Hid (OwnG w.heap.size wo.heap.size wi u6 (List.replicate i (List.replicate N true))) ∧ Hid (w.grownBy wi none) ∧ Hid (wo.heap.size ≤ wi.heap.size)) (fun _ q _ => N - (intOf q).toNat)
          case atStart => exact ⟨0, by omega, rfl, I0, T0, G1, Z1⟩
          case round =>
            clear I0 T0 G1 Z1
            obtain ⟨k, hk, rfl, hx, ht, hg, hz⟩ := hrel
            by_cases hkn : k < N
            · have Y := Lib.hid (one_bool wr (true))
              have O5 := Lib.hid (OwnB.grown hx.out (grown_alloc wr (.cells #[.bool (true)] 4) none))
              have T5 := Lib.hid (OwnG.grown ht.out (grown_alloc wr (.cells #[.bool (true)] 4) none))
              have G5 := Lib.hid (gAlloc hg.out (.cells #[.bool (true)] 4))
              have HB := Lib.hid (show wo.heap.size ≤ (wr.alloc (.cells #[.bool (true)] 4)).heap.size by have := hz.out; simp; omega)
              clear hx ht hg
              go_wp2_with (at_builtin; refine app_bools rfl (.tmp 48) (.tmp 49) rfl O5.out Y.out rfl rfl HB.out (by simp; omega) ?_; intro v9 w9 o9 g9; refine Hid.out ?_)
              show wpList _ _ _ _ _ _
              have bnd := fun k e => (World.ownsRow.lt O5.out k e).1
              have T9 := Lib.hid (OwnG.row T5.out g9 (fun k e => .inr (bnd k e)))
              have G9 := Lib.hid (grown_own G5.out O5.out g9 (by omega))
              have Z9 := Lib.hid (Nat.le_trans HB.out g9.size)
              have O9 := Lib.hid o9
              clear bnd o9 g9 O5 T5 G5 Y HB
              go_wp2
              go_roundw
              case rel => exact ⟨k + 1, by omega, by go_num, by rw [List.replicate_succ']; exact O9, T9, G9, Z9⟩
              case measure => simp [intOf]; omega
            · obtain rfl : k = N := by omega
              have Y := Lib.hid (one_row wr u9)
              have O2 := Lib.hid (OwnB.grown hx.out (grown_alloc wr (.cells #[u9] 30) none))
              have T2 := Lib.hid (OwnG.grown ht.out (grown_alloc wr (.cells #[u9] 30) none))
              have G2 := Lib.hid (gAlloc hg.out (.cells #[u9] 30))
              have HB := Lib.hid (show wo.heap.size ≤ (wr.alloc (.cells #[u9] 30)).heap.size by have := hz.out; simp; omega)
              have SH := OwnB.shape hx.out
              simp only [List.length_replicate] at SH
              obtain ⟨q1, q2, rfl, _⟩ := SH
              clear hx ht hg hz
              go_wp2_with (at_builtin; refine app_grid rfl (.tmp 51) (.tmp 53) rfl T2.out O2.out Y.out rfl rfl zo HB.out (by simp; omega) ?_; intro v9 w9 o9 g9; refine Hid.out ?_)
              show wpList _ _ _ _ _ _
              have gg9 : w.grownBy w9 none := by
                obtain ⟨vs, hh1, _⟩ := T2.out
                exact grown_own G2.out hh1 g9 (Nat.le_refl _)
              have O9 := Lib.hid o9
              have G9 := Lib.hid gg9
              clear gg9 o9 g9 T2 O2 G2 Y HB
              go_wp2
              go_roundw
              case rel => exact ⟨i + 1, by omega, by go_num, by rw [factN]; go_num, by rw [List.replicate_succ']; exact O9, G9⟩
              case measure => simp [intOf]; omega
        · have hin' : i = N := by omega
          subst hin'
          have SH := ho.out.shape
          simp only [List.length_replicate] at SH
          obtain ⟨q1, q2, rfl, hga⟩ := SH
          have HF := Lib.hid (show acount (List.replicate i (List.replicate i true)) = (factN i : Nat) from acount_full i hN1 hN5)
          have LE := A3'.out
          have AL := Lib.hid (acount_le hgp)
          rw [HN.out] at AL
          have AL' := AL.out
          go_wp2_with fail
          refine (assignCount_any _ _ _ _ _ hga).mono ?_
          rintro e w9 ⟨rfl, rfl⟩
          rw [HF.out]
          go_wp2_with fail
          go_ret
          exact ⟨rfl, hg.out⟩
end Go.Proofs.Ytilgcfgbfhmdcaa
