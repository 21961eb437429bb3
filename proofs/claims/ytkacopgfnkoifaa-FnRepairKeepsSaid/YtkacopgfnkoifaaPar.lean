/- PiecesParity of both. -/
import Derived.Test.YtkacopgfnkoifaaComb
import Derived.WalkKit
import Derived.Lib.Hide
import Derived.Deep.QuietTactic
import Derived.BigQuiet
import Derived.StillTailTactics
namespace Go.Proofs.Ytkacopgfnkoifaa
open Go.RowKit
theorem ownI_none (B : Nat) (w : World) : OwnI B w (.slice none 0 0) [] := ⟨rfl, .inl ⟨rfl, rfl⟩⟩
theorem ints_nil (w : World) : IntsPost w [] (.returned (.slice none 0 0)) w := ints_post (v := .slice none 0 0) (ownI_none _ _) (grown_refl _ _)
set_option maxHeartbeats 1000000 in
theorem piecesParity_any (w : World) (ao : Option Addr) (n cap : Nat) (rows : List (List Int)) (h : RowsAt w ao n cap rows) :
    Calls Try.prog 29 #[.slice ao n cap] w (IntsPost w (parityL rows)) := by
  obtain ⟨i0, hi, hz0, hz1, hz2⟩ := info_parts info_int
  have H := Lib.hid h.len
  go_enter Try.func29, Try.ntmps29
  go_wp2_with fail
  refine (missing_any _ _ _ _ _ h).mono ?_
  rintro e w1 ⟨⟨hP, rfl⟩ | ⟨hP, rfl⟩, rfl⟩
  · obtain ⟨E, hE⟩ : ∃ E, emptN rows rows.length = E := ⟨_, rfl⟩
    obtain ⟨A, hA⟩ : ∃ A, emptA rows rows.length = A := ⟨_, rfl⟩
    rw [hE, hA]
    have HE := Lib.hid hE
    have HP := Lib.hid hP
    clear hE hA hP
    by_cases hE0 : E = 0
    · subst hE0
      have R := Lib.hid (parityL_yes (rows := rows) ⟨HP.out, HE.out⟩)
      go_wp2_with (at_make; refine wpList_make_full w rfl _ _ 22 rfl w.heap.size 3 i0 (.int .i64 0) 1 Try.underlying22 hi hz0 hz1 .i64 .i64 3 3 3 rfl rfl rfl rfl (by rw [hz2]; omega) (by unfold maxLen; omega) (Nat.le_refl _) ?_; intro w2 o1 g1; refine Hid.out ?_)
      show wpList _ _ _ _ _ _
      rw [made_ints] at o1
      have o2 : OwnI w.heap.size w2 (.slice (some ⟨w.heap.size, 0, none⟩) 3 3) (List.replicate 3 0) := by
        unfold OwnI Own
        simpa using o1
      have HS := Lib.hid (h.grown g1)
      have G1 := Lib.hid g1
      have O2 := Lib.hid (OwnI.ints o2).1
      clear o1 o2 g1 hi hz0 hz1 hz2 h
      have HROW := Lib.hid (show ∀ i, i < n → (rows.getD i []).length = 0 ∨ OneP (rows.getD i []) from fun i hi => HP.out.2 i (by rw [H.out]; exact hi))
      go_wp2_with fail
      refine (combined_1 _ _ _ _ _ _ _ rows O2.out zero_one HS.out HROW.out).mono ?_
      rintro e w3 ⟨a3, c3, rfl, o3, g3⟩
      have O3 := Lib.hid (Own.lower o3 G1.out.size)
      have G3 := Lib.hid (grown_trans G1.out g3)
      clear o3 g3
      go_wp2_with fail
      go_ret
      rw [R.out, H.out]
      exact ints_post O3.out G3.out
    · have E0 : 0 < E := by omega
      have R := Lib.hid (parityL_no (rows := rows) fun e => hE0 (by rw [← HE.out]; exact e.2))
      clear hE0
      go_wp2_with fail
      go_ret
      rw [R.out]
      exact ints_nil _
  · have R := Lib.hid (parityL_no (rows := rows) fun e => hP e.1)
    clear hP
    go_wp2_with fail
    go_ret
    rw [R.out]
    exact ints_nil _
set_option maxHeartbeats 2000000 in
theorem piecesParityS_any (w : World) (ao : Option Addr) (n cap : Nat) (rows : List (List Int)) (h : RowsAt w ao n cap rows) :
    Calls Try.prog 31 #[.slice ao n cap] w (IntsPost w (parityL rows)) := by
  obtain ⟨i0, hi, hz0, hz1, hz2⟩ := info_parts info_int
  have H := Lib.hid h.len
  go_enter Try.func31, Try.ntmps31
  go_wp2_with fail
  refine (l23Missing_any _ _ _ _ _ h).mono ?_
  rintro e w1 ⟨⟨hP, rfl⟩ | ⟨hP, rfl⟩, rfl⟩
  · obtain ⟨E, hE⟩ : ∃ E, emptN rows rows.length = E := ⟨_, rfl⟩
    rw [hE]
    have HE := Lib.hid hE
    have HP := Lib.hid hP
    clear hE hP
    by_cases hE0 : E = 0
    · subst hE0
      have R := Lib.hid (parityL_yes (rows := rows) ⟨HP.out, HE.out⟩)
      have FP : Hid (FullP rows) := Lib.hid ⟨HP.out, HE.out⟩
      have hn5 : n ≤ 5 := by have := HP.out.1.2; have := H.out; omega
      go_wp2_with (at_make; refine wpList_make_full w rfl _ _ 22 rfl w.heap.size 3 i0 (.int .i64 0) 1 Try.underlying22 hi hz0 hz1 .i64 .i64 3 3 3 rfl rfl rfl rfl (by rw [hz2]; omega) (by unfold maxLen; omega) (Nat.le_refl _) ?_; intro w2 o1 g1; refine Hid.out ?_)
      show wpList _ _ _ _ _ _
      rw [made_ints] at o1
      have o2 : OwnI w.heap.size w2 (.slice (some ⟨w.heap.size, 0, none⟩) 3 3) (List.replicate 3 0) := by
        unfold OwnI Own
        simpa using o1
      have G1 := Lib.hid g1
      have O1 := Lib.hid o2
      clear o1 o2 g1 hi hz0 hz1 hz2
      obtain ⟨g, hg0⟩ : ∃ g, w.heap.size = g := ⟨_, rfl⟩
      have HG0 := Lib.hid hg0
      rw [hg0] at O1 ⊢
      clear hg0
      go_wp2_with fail
      go_loopw [4, 5] (fun q u wr => ∃ k : Nat, k ≤ n ∧ q = .int .i64 k ∧ Hid (OwnI g wr (.slice (some ⟨g, 0, none⟩) 3 3) (combR 1 (List.replicate 3 0) rows k)) ∧ Hid (w.grownBy wr none)) (fun q _ _ => n - (intOf q).toNat)
      case atStart => exact ⟨0, by omega, rfl, O1, G1⟩
      case round =>
        clear O1 G1
        obtain ⟨k, hk, rfl, ho, hg⟩ := hrel
        obtain ⟨wo, rfl⟩ : ∃ wo : World, wo = wr := ⟨_, rfl⟩
        by_cases hlt : k < n
        · obtain ⟨b, off, ro, rc, rfl, cc, hrow⟩ := h.at k hlt
          have CC := Lib.hid cc
          clear cc
          have hone := FP.out.row k (by rw [H.out]; exact hlt)
          have hacc := combR_one (s := 1) (rows := rows) zero_one k
          obtain ⟨row, hz⟩ : ∃ z, rows.getD k [] = z := ⟨_, rfl⟩
          obtain ⟨acc, ha⟩ : ∃ z, combR 1 (List.replicate 3 0) rows k = z := ⟨_, rfl⟩
          rw [hz] at CC hrow hone
          rw [hone.1] at CC hrow
          rw [ha] at ho hacc
          have NX := Lib.hid (show combR 1 (List.replicate 3 0) rows (k + 1) = rowAdd 1 acc row by rw [combR, ha, hz])
          have HROW := Lib.hid hrow
          have HC := Lib.hid hone
          have HA := Lib.hid hacc
          clear hz ha hrow hone hacc
          have H0 := Lib.hid (half_start 1 acc row)
          go_wp2_with fail
          go_loopw [5] (fun q wr => ∃ (j : Nat) (zs : List Int), j ≤ 3 ∧ q = .int .i64 j ∧ Hid (HalfAdd 1 acc row j zs) ∧ Hid (OwnI g wr (.slice (some ⟨g, 0, none⟩) 3 3) zs) ∧ Hid (w.grownBy wr none)) (fun q _ => 3 - (intOf q).toNat)
          case atStart => exact ⟨0, acc, by omega, rfl, H0, ho, hg⟩
          case round =>
            clear H0 ho hg
            obtain ⟨j, zs, hj, rfl, hh, ho, hg⟩ := hrel
            obtain ⟨wi, rfl⟩ : ∃ wi : World, wi = wr := ⟨_, rfl⟩
            by_cases hjl : j < 3
            · have hrow2 : IntsAt wi ro 3 rc row := IntsAt.grown HROW.out hg.out
              obtain ⟨rb, roff, rfl, -, hcell⟩ := IntsAt.addr hrow2 (by omega)
              have cy := hcell j hjl
              obtain ⟨cz, fz, -, hset⟩ := ints_at1 ho.out j (by rw [hh.out.1, HA.out.1]; omega)
              rw [hh.out.2.2 j (Nat.le_refl _)] at cz
              have yb := one_getD HC.out j (by omega)
              have zb := one_getD HA.out j (by omega)
              obtain ⟨y, hy⟩ : ∃ y, row.getD j 0 = y := ⟨_, rfl⟩
              obtain ⟨z, hz⟩ : ∃ z, acc.getD j 0 = z := ⟨_, rfl⟩
              rw [hy] at cy yb
              rw [hz] at cz zb
              obtain ⟨y0, y1⟩ := yb
              obtain ⟨z0, z1⟩ := zb
              have cc := hg.out.cell CC.out (by simp)
              have NH := Lib.hid (half_step hh.out (x := (z + y) % 991) (by rw [HA.out.1]; omega) (by rw [HC.out.1]; exact hjl) (by rw [hy, hz]; omega))
              have hd : OwnI g wi.drew (.slice (some ⟨g, 0, none⟩) 3 3) zs := OwnI.grown ho.out (gDrew (grown_refl _ _))
              have gd : w.grownBy wi.drew none := gDrew hg.out
              obtain ⟨wd, hwd⟩ : ∃ wd, wi.drew = wd := ⟨_, rfl⟩
              rw [hwd] at hd gd
              obtain ⟨cz2, fz2, -, hset2⟩ := ints_at1 hd j (by rw [hh.out.1, HA.out.1]; omega)
              have NO := Lib.hid (hset2 ((z + y) % 991))
              have NG : Hid (w.grownBy (wd.setCell ⟨g, j, none⟩ (.int .i64 ((z + y) % 991))) none) := Lib.hid (gSet gd (by rw [HG0.out]; exact Nat.le_refl _) _)
              have HD := Lib.hid hwd
              clear hy hz hset hcell hrow2 hh ho hg HROW HC HA NX CC hwd hset2 hd gd fz
              have i0 : (0 : Int) ≤ (k : Int) := by omega
              have i1 : (k : Int) < n := by omega
              have i2 : (0 : Int) ≤ (j : Int) := by omega
              have i3 : (j : Int) < 3 := by omega
              go_wp2
              go_still_tail 16, (by kernel_rfl)
              change wpList _ _ _ _ _ wi.drew
              rw [HD.out]
              clear HD
              go_wp2
              go_roundw
              case rel => exact ⟨j + 1, _, by omega, by go_num, NH, NO, NG⟩
              case measure => simp [intOf]; omega
            · have NO : Hid (OwnI g wi (.slice (some ⟨g, 0, none⟩) 3 3) (combR 1 (List.replicate 3 0) rows (k + 1))) := by
                have e := half_end hh.out (by rw [HC.out.1]; omega)
                rw [NX.out, ← e]; exact ho
              have NG := Lib.hid hg.out
              clear hh ho hg
              go_wp2
              go_roundw
              case rel => exact ⟨k + 1, by omega, by go_num, NO, NG⟩
              case measure => simp [intOf]; omega
        · have hkn : k = n := by omega
          subst hkn
          have O9 : Hid (OwnI w.heap.size wo (.slice (some ⟨g, 0, none⟩) 3 3) (parityL rows)) := by
            rw [R.out, H.out, HG0.out]; exact ho
          go_wp2
          go_ret
          exact ints_post (v := .slice (some ⟨g, 0, none⟩) 3 3) O9.out hg.out
    · have E0 : 0 < E := by omega
      have R := Lib.hid (parityL_no (rows := rows) fun e => hE0 (by rw [← HE.out]; exact e.2))
      have e1 : ((E : Int) != 0) = true := by simp; omega
      clear hE0
      go_wp2_with fail
      go_ret
      rw [R.out]
      exact ints_post (own_nil _ _ (Nat.le_refl _)) (grown_alloc _ _ _)
  · have R := Lib.hid (parityL_no (rows := rows) fun e => hP e.1)
    clear hP
    go_wp2_with fail
    go_ret
    rw [R.out]
    exact ints_post (own_nil _ _ (Nat.le_refl _)) (grown_alloc _ _ _)
end Go.Proofs.Ytkacopgfnkoifaa
