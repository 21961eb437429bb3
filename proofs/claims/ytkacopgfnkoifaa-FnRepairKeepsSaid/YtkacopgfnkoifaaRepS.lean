/- PiecesRepair of the reference. -/
import Derived.Test.YtkacopgfnkoifaaRep
import Derived.WalkKit
import Derived.Lib.Hide
import Derived.Deep.QuietTactic
import Derived.BigQuiet
import Derived.StillTailTactics
namespace Go.Proofs.Ytkacopgfnkoifaa
open Go.RowKit
set_option maxHeartbeats 4000000 in
theorem piecesRepairS_any (w : World) (ao : Option Addr) (n cap : Nat) (rows : List (List Int)) (po : Option Addr) (m pc : Nat) (par : List Int) (h : RowsAt w ao n cap rows) (hp : IntsAt w po m pc par) :
    Calls Try.prog 37 #[.slice ao n cap, .slice po m pc] w (RepPost w rows par) := by
  have H := Lib.hid h.len
  have Hm := Lib.hid hp.len
  have ON := Lib.hid (OwnR.now (ownR_nil w.heap.size w (Nat.le_refl _)))
  have GN := Lib.hid (grown_alloc w (.cells #[] 22) none)
  go_enter Try.func37, Try.ntmps37
  go_wp2_with fail
  refine (l23Missing_any _ _ _ _ _ h).mono ?_
  rintro e w1 ⟨⟨hP, rfl⟩ | ⟨hP, rfl⟩, rfl⟩
  case inr =>
    have R : Hid (¬ RepP rows par) := Lib.hid fun e => hP e.1
    have hb := Lib.hid (show inB (-1) 0 1 = false from inB_false.2 (by omega))
    clear hP
    go_wp2_with (go_at_call 54; refine (l6In_any _ _ _ _).mono ?_; rintro e w' ⟨rfl, rfl⟩; rw [hb.out])
    go_ret2
    exact rep_no R.out ON.out GN.out
  case inl =>
    obtain ⟨E, hE⟩ : ∃ E, emptN rows rows.length = E := ⟨_, rfl⟩
    rw [hE]
    have HE := Lib.hid hE
    have HP := Lib.hid hP
    clear hE hP
    by_cases hE1 : 1 < E
    · have R : Hid (¬ RepP rows par) := Lib.hid fun e => by have := e.2.1; have := HE.out; omega
      have hb := Lib.hid (show inB (E : Int) 0 1 = false from inB_false.2 (by omega))
      clear hE1
      go_wp2_with (go_at_call 54; refine (l6In_any _ _ _ _).mono ?_; rintro e w' ⟨rfl, rfl⟩; rw [hb.out])
      go_ret2
      exact rep_no R.out ON.out GN.out
    have hb := Lib.hid (show inB (E : Int) 0 1 = true from inB_true (by omega) (by omega))
    by_cases hpar : OneP par
    case neg =>
      have R : Hid (¬ RepP rows par) := Lib.hid fun e => hpar e.2.2
      have P := Lib.hid (pb_false hpar)
      clear hpar
      go_wp2_with (first | (go_at_call 54; refine (l6In_any _ _ _ _).mono ?_; rintro e w' ⟨rfl, rfl⟩; rw [hb.out]) | (go_at_call 55; refine (l23Piece_any _ _ _ _ par hp).mono ?_; rintro e w' ⟨rfl, rfl⟩; rw [P.out]))
      go_ret2
      exact rep_no R.out ON.out GN.out
    case pos =>
      have R : Hid (RepP rows par) := Lib.hid ⟨HP.out, by rw [HE.out]; omega, hpar⟩
      have P := Lib.hid (pb_true hpar)
      have hn5 : n ≤ 5 := by have := HP.out.1.2; have := H.out; omega
      obtain rfl : m = 3 := by rw [← Hm.out]; exact hpar.1
      have HROW := Lib.hid (show ∀ i, i < n → (rows.getD i []).length = 0 ∨ OneP (rows.getD i []) from fun i hi => HP.out.2 i (by rw [H.out]; exact hi))
      have HPar := Lib.hid hpar
      clear hpar ON GN
      have O0 := Lib.hid (own_nil w.heap.size w (Nat.le_refl _))
      have G0 := Lib.hid (grown_alloc w (.cells #[] 3) none)
      have X0 := Lib.hid (hp.grown G0.out)
      have zz := G0.out.size
      go_wp2_with (first | (go_at_call 54; refine (l6In_any _ _ _ _).mono ?_; rintro e w' ⟨rfl, rfl⟩; rw [hb.out]) | (go_at_call 55; refine (l23Piece_any _ _ _ _ par hp).mono ?_; rintro e w' ⟨rfl, rfl⟩; rw [P.out]) | (at_builtin; refine app_ints rfl (.tmp 23) (.tmp 24) rfl O0.out X0.out rfl rfl zz (by rw [HPar.out.1]; simp) ?_; intro v1 w1 o1 g1; refine Hid.out ?_))
      show wpList _ _ _ _ _ _
      rw [List.nil_append] at o1
      have G1 := Lib.hid (grown_own G0.out O0.out g1 (Nat.le_refl _))
      obtain ⟨a1, c1, rfl, -⟩ := OwnI.shape o1
      rw [HPar.out.1] at o1 ⊢
      obtain ⟨g, e1, -, hgB, -⟩ := OwnI.at o1 (by rw [HPar.out.1]; omega)
      subst e1
      have O1 := Lib.hid o1
      clear o1 g1 O0 G0 X0 zz
      go_wp2_with fail
      go_loopw [8, 9] (fun q u wr => ∃ k : Nat, k ≤ n ∧ q = .int .i64 k ∧ Hid (OwnI w.heap.size wr (.slice (some ⟨g, 0, none⟩) 3 c1) (combR (-1) par rows k)) ∧ Hid (w.grownBy wr none)) (fun q _ _ => n - (intOf q).toNat)
      case atStart => exact ⟨0, by omega, rfl, O1, G1⟩
      case round =>
        clear O1 G1
        obtain ⟨k, hk, rfl, ho, hg⟩ := hrel
        obtain ⟨wo, rfl⟩ : ∃ wo : World, wo = wr := ⟨_, rfl⟩
        by_cases hlt : k < n
        · obtain ⟨b, off, ro, rc, rfl, cc, hrow⟩ := h.at k hlt
          have CC := Lib.hid cc
          clear cc
          have hcase := HROW.out k hlt
          have hacc := combR_one (s := -1) (rows := rows) HPar.out k
          obtain ⟨row, hz⟩ : ∃ z, rows.getD k [] = z := ⟨_, rfl⟩
          obtain ⟨acc, ha⟩ : ∃ z, combR (-1) par rows k = z := ⟨_, rfl⟩
          obtain ⟨l, hll⟩ : ∃ l, row.length = l := ⟨_, rfl⟩
          rw [hz] at hcase
          rw [hz, hll] at CC hrow
          rw [ha] at ho hacc
          have hl3 : l ≤ 3 := by
            rcases hcase with e | e
            · omega
            · have := e.1; omega
          have NX := Lib.hid (show combR (-1) par rows (k + 1) = rowAdd (-1) acc row by rw [combR, ha, hz])
          have HROWK := Lib.hid hrow
          have HC := Lib.hid hcase
          have HA := Lib.hid hacc
          have HL := Lib.hid hll
          clear hz ha hrow hcase hacc hll
          have H0 := Lib.hid (half_start (-1) acc row)
          go_wp2_with fail
          go_loopw [9] (fun q wr => ∃ (j : Nat) (zs : List Int), j ≤ l ∧ q = .int .i64 j ∧ Hid (HalfAdd (-1) acc row j zs) ∧ Hid (OwnI w.heap.size wr (.slice (some ⟨g, 0, none⟩) 3 c1) zs) ∧ Hid (w.grownBy wr none)) (fun q _ => l - (intOf q).toNat)
          case atStart => exact ⟨0, acc, by omega, rfl, H0, ho, hg⟩
          case round =>
            clear H0 ho hg
            obtain ⟨j, zs, hj, rfl, hh, ho, hg⟩ := hrel
            obtain ⟨wi, rfl⟩ : ∃ wi : World, wi = wr := ⟨_, rfl⟩
            have cc := hg.out.cell CC.out (by simp)
            by_cases hjl : j < l
            · have hone : OneP row := by
                rcases HC.out with e | e
                · have := HL.out; omega
                · exact e
              have hrow2 : IntsAt wi ro l rc row := IntsAt.grown HROWK.out hg.out
              obtain ⟨rb, roff, rfl, -, hcell⟩ := IntsAt.addr hrow2 (by omega)
              have cy := hcell j hjl
              obtain ⟨cz, fz, -, hset⟩ := ints_at1 ho.out j (by rw [hh.out.1, HA.out.1]; omega)
              rw [hh.out.2.2 j (Nat.le_refl _)] at cz
              have yb := one_getD hone j (by omega)
              have zb := one_getD HA.out j (by omega)
              obtain ⟨y, hy⟩ : ∃ y, row.getD j 0 = y := ⟨_, rfl⟩
              obtain ⟨z, hz⟩ : ∃ z, acc.getD j 0 = z := ⟨_, rfl⟩
              rw [hy] at cy yb
              rw [hz] at cz zb
              obtain ⟨y0, y1⟩ := yb
              obtain ⟨z0, z1⟩ := zb
              have NH := Lib.hid (half_step hh.out (x := (z + 991 - y) % 991) (by rw [HA.out.1]; omega) (by rw [HL.out]; exact hjl) (by rw [hy, hz]; omega))
              have hd : OwnI w.heap.size wi.drew (.slice (some ⟨g, 0, none⟩) 3 c1) zs := OwnI.grown ho.out (gDrew (grown_refl _ _))
              have gd : w.grownBy wi.drew none := gDrew hg.out
              obtain ⟨wd, hwd⟩ : ∃ wd, wi.drew = wd := ⟨_, rfl⟩
              rw [hwd] at hd gd
              obtain ⟨cz2, fz2, -, hset2⟩ := ints_at1 hd j (by rw [hh.out.1, HA.out.1]; omega)
              have NO := Lib.hid (hset2 ((z + 991 - y) % 991))
              have NG : Hid (w.grownBy (wd.setCell ⟨g, j, none⟩ (.int .i64 ((z + 991 - y) % 991))) none) := Lib.hid (gSet gd hgB _)
              have HD := Lib.hid hwd
              clear hy hz hset hcell hrow2 hh ho hg HROWK HC HA NX CC hwd hset2 hd gd fz hone HL
              have i0 : (0 : Int) ≤ (k : Int) := by omega
              have i1 : (k : Int) < n := by omega
              have i2 : (0 : Int) ≤ (j : Int) := by omega
              have i3 : (j : Int) < l := by omega
              have i4 : (j : Int) < 3 := by omega
              go_wp2
              go_still_tail 17, (by kernel_rfl)
              change wpList _ _ _ _ _ wi.drew
              rw [HD.out]
              clear HD
              go_wp2
              go_roundw
              case rel => exact ⟨j + 1, _, by omega, by go_num, NH, NO, NG⟩
              case measure => simp [intOf]; omega
            · have NO : Hid (OwnI w.heap.size wi (.slice (some ⟨g, 0, none⟩) 3 c1) (combR (-1) par rows (k + 1))) := by
                have e := half_end hh.out (by rw [HL.out]; omega)
                rw [NX.out, ← e]; exact ho
              have NG := Lib.hid hg.out
              clear hh ho hg
              go_wp2
              go_roundw
              case rel => exact ⟨k + 1, by omega, by go_num, NO, NG⟩
              case measure => simp [intOf]; omega
        · have hkn : k = n := by omega
          have XR := Lib.hid (show IntsAt wo (some ⟨g, 0, none⟩) 3 c1 (combR (-1) par rows n) by rw [← hkn]; exact (OwnI.ints ho.out).1)
          have LEN := Lib.hid (show (combR (-1) par rows n).length = 3 by rw [combR_len]; exact HPar.out.1)
          have HW := Lib.hid (RowsAt.grown h hg.out)
          have GW := Lib.hid hg.out
          clear hkn ho hg
          have O0 := Lib.hid (OwnR.now (ownR_nil wo.heap.size wo (Nat.le_refl _)))
          have G0 := Lib.hid (grown_alloc wo (.cells #[] 22) none)
          obtain ⟨w3, rfl⟩ : ∃ w3 : World, w3 = wo := ⟨_, rfl⟩
          have z3 := GW.out.size
          go_wp2_with fail
          go_loopw [10, 11] (fun v q wr => ∃ i : Nat, i ≤ n ∧ q = .int .i64 i ∧ Hid (OwnR w3.heap.size wr.heap.size wr v ((List.range i).map (repRow rows par))) ∧ Hid (w3.grownBy wr none)) (fun _ q _ => n - (intOf q).toNat)
          case atStart => exact ⟨0, by omega, rfl, O0, G0⟩
          case round =>
            clear O0 G0
            obtain ⟨i, hi, rfl, ho, hg⟩ := hrel
            obtain ⟨wo, rfl⟩ : ∃ wo : World, wo = wr := ⟨_, rfl⟩
            have zo := hg.out.size
            by_cases hin : i < n
            · obtain ⟨b, off, ro, rc, rfl, cc, hrow⟩ := (HW.out.grown hg.out).at i hin
              have hcase := HROW.out i hin
              have HRR : Hid (repRow rows par i = if (rows.getD i []).length = 0 then combR (-1) par rows rows.length else rows.getD i []) := Lib.hid rfl
              obtain ⟨row, hz⟩ : ∃ z, rows.getD i [] = z := ⟨_, rfl⟩
              obtain ⟨l, hll⟩ : ∃ l, row.length = l := ⟨_, rfl⟩
              rw [hz, hll] at cc hrow
              rw [hz] at hcase
              rw [hz] at HRR
              have hl3 : l ≤ 3 := by
                rcases hcase with e | e
                · omega
                · have := e.1; omega
              have OE := Lib.hid (own_nil wo.heap.size wo (Nat.le_refl _))
              have GE := Lib.hid (grown_alloc wo (.cells #[] 3) none)
              have zz := GE.out.size
              have HROWK := Lib.hid (IntsAt.grown hrow GE.out)
              have HL := Lib.hid hll
              clear hz hll hrow hcase
              by_cases hl0 : l = 0
              · have RR := Lib.hid (show repRow rows par i = combR (-1) par rows n by rw [HRR.out, if_pos (by rw [HL.out]; exact hl0), H.out])
                subst hl0
                have XE := Lib.hid ((XR.out.grown hg.out).grown GE.out)
                clear HRR HL HROWK
                go_wp2_with (at_builtin; refine app_ints rfl (.tmp 72) (.tmp 73) rfl OE.out XE.out rfl rfl zz (by rw [LEN.out]; simp) ?_; intro v6 w6 o6 g6; refine Hid.out ?_)
                show wpList _ _ _ _ _ _
                rw [List.nil_append] at o6
                obtain ⟨a6, c6, rfl, -⟩ := OwnI.shape o6
                rw [LEN.out] at o6 ⊢
                have g6' := grown_own GE.out OE.out g6 (Nat.le_refl _)
                have X6 := Lib.hid o6
                have T6 := Lib.hid (ho.out.grown g6')
                have G6 := Lib.hid (grown_trans hg.out g6')
                have Z6 := Lib.hid g6'.size
                clear o6 g6 g6' ho hg OE GE XE zz
                have Y := Lib.hid (one_lst w6 (.slice a6 3 c6))
                have O2 := Lib.hid (OwnI.grown X6.out (grown_alloc w6 (.cells #[.slice a6 3 c6] 22) none))
                have T2 := Lib.hid (OwnR.grown T6.out (grown_alloc w6 (.cells #[.slice a6 3 c6] 22) none))
                have G2 := Lib.hid (gAlloc G6.out (.cells #[.slice a6 3 c6] 22))
                have HB := Lib.hid (show wo.heap.size ≤ (w6.alloc (.cells #[.slice a6 3 c6] 22)).heap.size by have := Z6.out; simp; omega)
                clear X6 T6 G6 Z6
                go_wp2_with (at_builtin; refine app_rows rfl (.tmp 71) (.tmp 75) rfl T2.out O2.out Y.out rfl rfl zo HB.out (by rw [reps_len]; omega) ?_; intro v9 w9 o9 g9; refine Hid.out ?_)
                show wpList _ _ _ _ _ _
                obtain ⟨vs9, hh9⟩ := OwnTab.spine T2.out
                have gg9 := grown_own G2.out hh9 g9 (Nat.le_refl _)
                have O9 := Lib.hid o9
                have G9 := Lib.hid gg9
                clear gg9 hh9 vs9 o9 g9 T2 O2 G2 Y HB
                go_wp2
                go_roundw
                case rel => exact ⟨i + 1, by omega, by go_num, by rw [reps_step, RR.out]; exact O9, G9⟩
                case measure => simp [intOf]; omega
              · have RR := Lib.hid (show repRow rows par i = row by rw [HRR.out, if_neg (by rw [HL.out]; exact hl0)])
                have l0 : ((l : Int) == 0) = false := by simp; omega
                clear hl0 HRR
                have cc2 := GE.out.cell cc (by simp)
                go_wp2_with (at_builtin; refine app_ints rfl (.tmp 78) (.tmp 82) rfl OE.out HROWK.out rfl rfl zz (by rw [HL.out]; simp; omega) ?_; intro v6 w6 o6 g6; refine Hid.out ?_)
                show wpList _ _ _ _ _ _
                rw [List.nil_append] at o6
                obtain ⟨a6, c6, rfl, -⟩ := OwnI.shape o6
                rw [HL.out] at o6 ⊢
                have g6' := grown_own GE.out OE.out g6 (Nat.le_refl _)
                have X6 := Lib.hid o6
                have T6 := Lib.hid (ho.out.grown g6')
                have G6 := Lib.hid (grown_trans hg.out g6')
                have Z6 := Lib.hid g6'.size
                clear o6 g6 g6' ho hg OE GE zz HROWK HL cc2
                have Y := Lib.hid (one_lst w6 (.slice a6 l c6))
                have O2 := Lib.hid (OwnI.grown X6.out (grown_alloc w6 (.cells #[.slice a6 l c6] 22) none))
                have T2 := Lib.hid (OwnR.grown T6.out (grown_alloc w6 (.cells #[.slice a6 l c6] 22) none))
                have G2 := Lib.hid (gAlloc G6.out (.cells #[.slice a6 l c6] 22))
                have HB := Lib.hid (show wo.heap.size ≤ (w6.alloc (.cells #[.slice a6 l c6] 22)).heap.size by have := Z6.out; simp; omega)
                clear X6 T6 G6 Z6
                go_wp2_with (at_builtin; refine app_rows rfl (.tmp 77) (.tmp 84) rfl T2.out O2.out Y.out rfl rfl zo HB.out (by rw [reps_len]; omega) ?_; intro v9 w9 o9 g9; refine Hid.out ?_)
                show wpList _ _ _ _ _ _
                obtain ⟨vs9, hh9⟩ := OwnTab.spine T2.out
                have gg9 := grown_own G2.out hh9 g9 (Nat.le_refl _)
                have O9 := Lib.hid o9
                have G9 := Lib.hid gg9
                clear gg9 hh9 vs9 o9 g9 T2 O2 G2 Y HB
                go_wp2
                go_roundw
                case rel => exact ⟨i + 1, by omega, by go_num, by rw [reps_step, RR.out]; exact O9, G9⟩
                case measure => simp [intOf]; omega
            · have hin' : i = n := by omega
              subst hin'
              have O9 := Lib.hid (show OwnR w.heap.size wo.heap.size wo u10 ((List.range rows.length).map (repRow rows par)) by rw [H.out]; exact OwnR.lower ho.out z3)
              go_wp2
              go_ret2
              exact rep_yes R.out O9.out (grown_trans GW.out hg.out)
end Go.Proofs.Ytkacopgfnkoifaa
