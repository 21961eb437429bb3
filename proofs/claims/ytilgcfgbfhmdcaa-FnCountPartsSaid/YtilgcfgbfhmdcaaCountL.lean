/- The walk of FnCountLess. -/
import Derived.Test.YtilgcfgbfhmdcaaAsgC
import Derived.Test.YtilgcfgbfhmdcaaDrawG
import Derived.Test.YtilgcfgbfhmdcaaCountQ
import Derived.WalkKit
import Derived.Lib.Hide
import Derived.Deep.QuietTactic
import Derived.BigQuiet
import Derived.StillTailTactics
namespace Go.Proofs.Ytilgcfgbfhmdcaa
open Go.RowKit
theorem take_next (rows : List (List Bool)) (i : Nat) (h : i < rows.length) : rows.take (i + 1) = rows.take i ++ [rows.getD i []] := by
  rw [List.take_add_one, List.getD_eq_getElem?_getD, List.getElem?_eq_getElem h]; rfl
theorem gDrewAlone (w : World) : w.grownBy w.drew none := gDrew (grown_refl w none)
theorem cell_drewn {w : World} {p : Addr} {v : Value} (h : w.cell? p = some v) : w.drew.cell? p = some v := h
set_option maxHeartbeats 4000000 in
theorem fnCountLess_walk (ao : Option Addr) (n cap : Nat) (bo : Option Addr) (m mcap : Nat) (w : World) (h1 : CodeAt w ao n cap) (_ : CodeAt w bo m mcap) :
    Calls Try.prog 5 #[.slice ao n cap, .slice bo m mcap] w fun e w' => e = .returned (.bool true) ∧ w.grownBy w' none := by
  by_cases a : (1048576 : Int) < n
  · go_enter Try.func5, Try.ntmps5
    go_wp2
    go_ret
    exact ⟨rfl, grown_refl _ _⟩
  by_cases b : (1048576 : Int) < m
  · go_enter Try.func5, Try.ntmps5
    go_wp2
    go_ret
    exact ⟨rfl, grown_refl _ _⟩
  · go_enter Try.func5, Try.ntmps5
    go_wp2_with fail
    refine (drawAssignCount_any _ _ _ _ h1).mono ?_
    rintro e w1 ⟨rows, a1, c1, l1, rfl, t1, g1⟩
    go_wp2_with fail
    refine (assignCount_any _ _ _ _ _ t1).mono ?_
    rintro e w2 ⟨rfl, rfl⟩
    go_wp2_with fail
    refine (assignCountS_any _ _ _ _ _ t1).mono ?_
    rintro e w3 ⟨rfl, g3⟩
    have G3 := Lib.hid (grown_trans g1 g3)
    have T3 := Lib.hid (t1.grown g3)
    obtain ⟨N, hN⟩ : ∃ N, rows.length = N := ⟨_, rfl⟩
    rw [hN]
    rw [hN] at T3 l1
    have HN := Lib.hid hN
    clear g1 g3 t1 hN
    by_cases hgp : GridP rows
    case neg =>
      have A3 := acount_no hgp
      have A4 : acount rows < 0 := by rw [A3]; omega
      clear A3
      go_wp2_with fail
      go_ret
      exact ⟨rfl, G3.out⟩
    case pos =>
      have A3 := acount_nonneg hgp
      have hN1 : 1 ≤ N := by have := hgp.1; have := HN.out; omega
      have hN5 : N ≤ 5 := l1
      have O0 := Lib.hid (OwnG.now (ownG_nil w3.heap.size w3 (Nat.le_refl _)))
      have G0 := Lib.hid (grown_alloc w3 (.cells #[] 30) none)
      have A4 : ¬ acount rows < 0 := by omega
      have HG := Lib.hid hgp
      clear A3 hgp
      go_wp2_with fail
      go_loopw [9, 10] (fun v q wr => ∃ i : Nat, i ≤ N ∧ q = .int .i64 i ∧ Hid (OwnG w3.heap.size wr.heap.size wr v (rows.take i)) ∧ Hid (w3.grownBy wr none)) (fun _ q _ => N - (intOf q).toNat)
      case atStart => exact ⟨0, by omega, rfl, O0, G0⟩
      case round =>
        clear O0 G0
        obtain ⟨i, hi, rfl, ho, hg⟩ := hrel
        obtain ⟨wo, rfl⟩ : ∃ wo : World, wo = wr := ⟨_, rfl⟩
        have zo := hg.out.size
        by_cases hin : i < N
        · have I0 := Lib.hid (own_nilB wo.heap.size wo (Nat.le_refl _))
          have T0 := Lib.hid (OwnG.grown ho.out (grown_alloc wo (.cells #[] 4) none))
          have G1 := Lib.hid (gAlloc hg.out (.cells #[] 4))
          have Z1 := Lib.hid (show wo.heap.size ≤ (wo.alloc (.cells #[] 4)).heap.size by simp)
          have Dg := (T3.out.grown hg.out).grown (grown_alloc wo (.cells #[] 4) none)
          obtain ⟨b, off, ro, rc, rfl, cc, hr⟩ := Dg.at i hin
          obtain ⟨row, hrow⟩ : ∃ row, rows.getD i [] = row := ⟨_, rfl⟩
          have HL := Lib.hid (HG.out.2 i (by rw [HN.out]; exact hin))
          rw [HN.out] at HL
          rw [hrow] at cc hr HL
          rw [HL.out] at cc hr
          have HR := Lib.hid hr
          have HW := Lib.hid hrow
          clear hg ho Dg hr hrow
          go_wp2_with (first | (at_builtin; refine app_bools rfl (.tmp 44) (.tmp 48) rfl I0.out HR.out rfl rfl Z1.out (by rw [HL.out, List.length_nil]; omega) ?_; intro v9 w9 o9 g9; refine Hid.out ?_))
          show wpList _ _ _ _ _ _
          have bnd := fun k e => (World.ownsRow.lt I0.out k e).1
          have T9 := Lib.hid (OwnG.row T0.out g9 (fun k e => .inr (bnd k e)))
          have G9 := Lib.hid (grown_own G1.out I0.out g9 (by omega))
          have Z9 := Lib.hid (Nat.le_trans Z1.out g9.size)
          have O9 := Lib.hid o9
          clear bnd o9 g9 I0 T0 G1 Z1 cc
          have Y := Lib.hid (one_row w9 v9)
          have O2 := Lib.hid (OwnB.grown O9.out (grown_alloc w9 (.cells #[v9] 30) none))
          have T2 := Lib.hid (OwnG.grown T9.out (grown_alloc w9 (.cells #[v9] 30) none))
          have G2 := Lib.hid (gAlloc G9.out (.cells #[v9] 30))
          have HB := Lib.hid (show wo.heap.size ≤ (w9.alloc (.cells #[v9] 30)).heap.size by have := Z9.out; simp; omega)
          have SH := OwnB.shape O9.out
          simp only [List.nil_append, HL.out] at SH
          obtain ⟨q1, q2, rfl, _⟩ := SH
          clear O9 T9 G9 Z9
          go_wp2_with (at_builtin; refine app_grid rfl (.tmp 43) (.tmp 50) rfl T2.out O2.out Y.out rfl rfl zo HB.out (by have := HN.out; rw [List.length_take]; omega) ?_; intro v9 w9 o9 g9; refine Hid.out ?_)
          show wpList _ _ _ _ _ _
          obtain ⟨vs9, hh9⟩ := OwnTab.spine T2.out
          have gg9 := grown_own G2.out hh9 g9 (Nat.le_refl _)
          have O9 := Lib.hid o9
          have G9 := Lib.hid gg9
          clear gg9 hh9 vs9 o9 g9 T2 O2 G2 Y HB
          go_wp2
          go_roundw
          case rel => exact ⟨i + 1, by omega, by go_num, by rw [take_next rows i (by rw [HN.out]; exact hin), HW.out]; exact O9, G9⟩
          case measure => simp [intOf]; omega
        · have hin' : i = N := by omega
          subst hin'
          have h5 := ho.out
          rw [List.take_of_length_le (by rw [HN.out]; exact Nat.le_refl _)] at h5
          have h6 := OwnG.grown h5 (gDrewAlone wo)
          have hgd := grown_trans hg.out (gDrewAlone wo)
          obtain ⟨wd, hwd⟩ : ∃ wd, wo.drew = wd := ⟨_, rfl⟩
          rw [hwd] at h6 hgd
          have SH := h5.shape
          rw [HN.out] at SH
          obtain ⟨q1, q2, rfl, hga⟩ := SH
          obtain ⟨x, hx⟩ : ∃ x : Nat, m % i = x := ⟨_, rfl⟩
          obtain ⟨y, hy⟩ : ∃ y : Nat, m / 8 % i = y := ⟨_, rfl⟩
          have hxi : x < i := by rw [← hx]; exact Nat.mod_lt _ (by omega)
          have hyi : y < i := by rw [← hy]; exact Nat.mod_lt _ (by omega)
          have ly := HG.out.2 x (by rw [HN.out]; exact hxi)
          rw [HN.out] at ly
          obtain ⟨g, bb, rc, v0, rfl, ca, hBb, cb, fb, hst⟩ := OwnTab.cell h5 (by decide) x y (by rw [HN.out]; exact hxi) (by rw [ly]; exact hyi)
          rw [ly] at ca
          clear cb fb hst v0 hBb
          obtain ⟨g', bb', rc', v0, e0, ca', hBb, cb, fb, hst⟩ := OwnTab.cell h6 (by decide) x y (by rw [HN.out]; exact hxi) (by rw [ly]; exact hyi)
          simp only [Option.some.injEq, Addr.mk.injEq, and_true] at e0
          subst e0
          have cx := cell_drewn ca
          rw [hwd, ca'] at cx
          simp only [Option.some.injEq, Value.slice.injEq, Addr.mk.injEq, and_true] at cx
          obtain ⟨e5, e6, e7⟩ := cx
          subst e5 e7
          have g9 := gSet hgd (p := ⟨bb', y, none⟩) hBb (.bool false)
          have hs9 := hst false
          clear e6 ca' h6 hgd
          have HS := Lib.hid hs9
          have HG9 := Lib.hid g9
          clear hst hs9 g9 h5 hga ho hg ly
          go_wp2_with fail
          have d0 : i ≠ 0 := by omega
          have d1 : ((i : Int) == 0) = false := by simp; omega
          have e1 : (m : Int).tmod (i : Int) = (x : Int) := by rw [← hx]; rfl
          have e2 : ((m : Int) / 8) % (i : Int) = (y : Int) := by rw [← hy]; rfl
          have e4 : (m : Int) % (i : Int) = (x : Int) := by rw [← hx]; rfl
          have e3 : ((m : Int).tdiv 8).tmod (i : Int) = (y : Int) := by rw [← hy]; rfl
          have e8 : (((m / 8 : Nat)) : Int).tmod (i : Int) = (y : Int) := by rw [← hy]; rfl
          have e9 : (((m / 8 : Nat)) : Int) % (i : Int) = (y : Int) := by rw [← hy]; rfl
          have HD := Lib.hid hwd
          clear hwd
          go_still_tail 12, (by kernel_rfl)
          change wpList _ _ _ _ _ wo.drew
          rw [HD.out]
          clear HD
          go_wp2_with fail
          have L1 := acount_struck HG.out x y
          have L2 := acount_nonneg (struck_grid HG.out x y)
          have HN9 : (rows.set x ((rows.getD x []).set y false)).length = i := by rw [List.length_set, HN.out]
          have SH := HS.out.shape
          rw [HN9] at SH
          obtain ⟨q7, q8, e7, hga⟩ := SH
          simp only [Value.slice.injEq, true_and] at e7
          obtain ⟨e10, e11⟩ := e7
          subst e10 e11
          obtain ⟨v, hv⟩ : ∃ v, acount (rows.set x ((rows.getD x []).set y false)) = v := ⟨_, rfl⟩
          have HV := Lib.hid hv
          rw [hv] at L1 L2
          clear hv HN9
          refine (assignCount_any _ _ _ _ _ hga).mono ?_
          rintro e w9 ⟨rfl, rfl⟩
          rw [HV.out]
          go_wp2_with fail
          refine (assignCount_any _ _ _ _ _ hga).mono ?_
          rintro e w9 ⟨rfl, rfl⟩
          rw [HV.out]
          go_wp2_with fail
          go_ret
          exact ⟨rfl, grown_trans G3.out HG9.out⟩
end Go.Proofs.Ytilgcfgbfhmdcaa
