/- PiecesJoin of the program. -/
import Derived.Test.YtkacopgfnkoifaaPar
import Derived.Test.YtkacopgfnkoifaaJoinP
import Derived.Test.YtkacopgfnkoifaaSameI
import Derived.Test.YtkacopgfnkoifaaSameT
import Derived.WalkKit
import Derived.Lib.Hide
import Derived.Deep.QuietTactic
import Derived.BigQuiet
namespace Go.Proofs.Ytkacopgfnkoifaa
open Go.RowKit
/-- what PiecesJoin returns -/
def JoinPost (w : World) (rows : List (List Int)) (e : Ending) (w' : World) : Prop :=
  ∃ ao cap, e = .returned (.tuple #[.slice ao (joinL rows).length cap, .bool (pb (JoinP rows))]) ∧ OwnI w.heap.size w' (.slice ao (joinL rows).length cap) (joinL rows) ∧ w.grownBy w' none
theorem join_no {w w' : World} {rows : List (List Int)} {v : Value} (h : ¬ JoinP rows) (ho : OwnI w.heap.size w' v []) (hg : w.grownBy w' none) : JoinPost w rows (.returned (.tuple #[v, .bool false])) w' := by
  obtain ⟨ao, cap, rfl, _⟩ := OwnI.shape ho
  exact ⟨ao, cap, by rw [pb_false h, joinL_no h], by rw [joinL_no h]; exact ho, hg⟩
theorem join_yes {w w' : World} {rows : List (List Int)} {v : Value} (h : JoinP rows) (ho : OwnI w.heap.size w' v (joinR rows)) (hg : w.grownBy w' none) : JoinPost w rows (.returned (.tuple #[v, .bool true])) w' := by
  obtain ⟨ao, cap, rfl, _⟩ := OwnI.shape ho
  exact ⟨ao, cap, by rw [pb_true h, joinL_yes h], by rw [joinL_yes h]; exact ho, hg⟩
set_option maxHeartbeats 4000000 in
theorem piecesJoin_any (w : World) (ao : Option Addr) (n cap : Nat) (rows : List (List Int)) (h : RowsAt w ao n cap rows) :
    Calls Try.prog 34 #[.slice ao n cap] w (JoinPost w rows) := by
  have H := Lib.hid h.len
  go_enter Try.func34, Try.ntmps34
  go_wp2_with fail
  refine (missing_any _ _ _ _ _ h).mono ?_
  rintro e w1 ⟨⟨hP, rfl⟩ | ⟨hP, rfl⟩, rfl⟩
  case inr =>
    have R := Lib.hid (show ¬ JoinP rows from fun e => hP e.1.1)
    clear hP
    go_wp2_with fail
    go_ret2
    exact join_no R.out (ownI_none _ _) (grown_refl _ _)
  case inl =>
    obtain ⟨E, hE⟩ : ∃ E, emptN rows rows.length = E := ⟨_, rfl⟩
    obtain ⟨A, hA⟩ : ∃ A, emptA rows rows.length = A := ⟨_, rfl⟩
    rw [hE, hA]
    have HE := Lib.hid hE
    have HP := Lib.hid hP
    clear hE hA hP
    by_cases hE0 : E = 0
    case neg =>
      have E0 : 0 < E := by omega
      have R := Lib.hid (show ¬ JoinP rows from fun e => hE0 (by rw [← HE.out]; exact e.1.2))
      clear hE0
      go_wp2_with fail
      go_ret2
      exact join_no R.out (ownI_none _ _) (grown_refl _ _)
    case pos =>
      subst hE0
      have FP : Hid (FullP rows) := Lib.hid ⟨HP.out, HE.out⟩
      have hn5 : n ≤ 5 := by have := HP.out.1.2; have := H.out; omega
      have hn1 : 1 ≤ n := by have := HP.out.1.1; have := H.out; omega
      have O0 := Lib.hid (own_nil w.heap.size w (Nat.le_refl _))
      have G0 := Lib.hid (grown_alloc w (.cells #[] 3) none)
      go_wp2_with fail
      go_loopw [7, 9, 28] (fun v u q wr => ∃ k : Nat, k ≤ n ∧ q = .int .i64 k ∧ Hid (OwnI w.heap.size wr v (catR rows k)) ∧ Hid (w.grownBy wr none)) (fun _ _ q _ => n - (intOf q).toNat)
      case atStart => exact ⟨0, by omega, rfl, O0, G0⟩
      case round =>
        clear O0 G0
        obtain ⟨k, hk, rfl, ho, hg⟩ := hrel
        obtain ⟨wo, rfl⟩ : ∃ wo : World, wo = wr := ⟨_, rfl⟩
        have zo := hg.out.size
        by_cases hlt : k < n
        · obtain ⟨b, off, ro, rc, rfl, cc, hrow⟩ := (h.grown hg.out).at k hlt
          have hone := FP.out.row k (by rw [H.out]; exact hlt)
          have hcl := catR_len (rows := rows) k fun i hi => (FP.out.row i (by rw [H.out]; omega)).1
          obtain ⟨row, hz⟩ : ∃ z, rows.getD k [] = z := ⟨_, rfl⟩
          rw [hz] at cc hrow hone
          rw [hone.1] at cc hrow
          have NX := Lib.hid (show catR rows (k + 1) = catR rows k ++ row by rw [catR, hz])
          have HROW := Lib.hid hrow
          have HC := Lib.hid hone
          have HCL := Lib.hid hcl
          clear hz hrow hone hcl
          go_wp2_with (at_builtin; refine app_ints rfl (.tmp 32) (.tmp 33) rfl ho.out HROW.out rfl rfl zo (by rw [HCL.out, HC.out.1]; omega) ?_; intro v2 w2 o2 g2; refine Hid.out ?_)
          show wpList _ _ _ _ _ _
          have G2 := Lib.hid (grown_own hg.out ho.out g2 (Nat.le_refl _))
          have O2 := Lib.hid (show OwnI w.heap.size w2 v2 (catR rows (k + 1)) by rw [NX.out]; exact o2)
          clear ho hg o2 g2
          go_wp2
          go_roundw
          case rel => exact ⟨k + 1, by omega, by go_num, O2, G2⟩
          case measure => simp [intOf]; omega
        · have hkn : k = n := by omega
          subst hkn
          have hcat := FP.out.cat
          have hfst := FP.out.first
          rw [H.out] at hcat hfst
          have o1 := ho.out
          obtain ⟨a1, c1, rfl, -⟩ := OwnI.shape o1
          rw [hcat] at o1 ⊢
          obtain ⟨g, e1, -, hgB, -⟩ := OwnI.at o1 (by rw [hcat]; omega)
          subst e1
          have cz := (ints_at1 o1 0 (by rw [hcat]; omega)).1
          have CI := Lib.hid (OwnI.ints o1).1
          have hcc := RowAt.le CI.out
          obtain ⟨N, hN⟩ : ∃ N, catN rows = N := ⟨_, rfl⟩
          rw [hfst.1, hN] at cz
          have hN990 : N ≤ 990 := by have := hfst.2; omega
          have HN := Lib.hid hN
          have HCAT := Lib.hid hcat
          have HG := Lib.hid hg.out
          have HA := Lib.hid (h.grown hg.out)
          clear o1 hcat hfst hN ho hg
          by_cases hlt2 : N < k * 3
          case neg =>
            have R := Lib.hid (show ¬ JoinP rows from fun e => hlt2 (by have := (joinP_iff.1 e).2.1; rw [HN.out, H.out] at this; exact this))
            have hge : ((k * 3 : Nat) : Int) ≤ (N : Int) := by omega
            go_wp2_with fail
            go_ret2
            exact join_no R.out (ownI_none _ _) HG.out
          case pos =>
            have hcap1 : ¬ c1 = 1 := by omega
            have hlt3 : ¬ ((k * 3 : Nat) : Int) ≤ (N : Int) := by omega
            have S := IntsAt.sub CI.out 1 (1 + N) (by omega) (by omega)
            rw [Nat.add_comm 1 N] at S
            have HS : Hid (IntsAt wo (some ⟨g, 0 + 1, none⟩) (N + 1 - 1) (c1 - 1) (joinR rows)) := by
              unfold joinR
              rw [HN.out, H.out]
              exact Lib.hid S
            have HJL := Lib.hid (show (joinR rows).length = N by rw [joinR_len FP.out (by rw [HN.out, H.out]; exact hlt2), HN.out])
            clear S
            go_wp2_with fail
            refine (clone_any _ _ _ _ (joinR rows) HS.out (by omega)).mono ?_
            rintro e w5 ⟨a5, c5, rfl, o5, g5⟩
            rw [HJL.out] at o5 ⊢
            have O5 := Lib.hid o5
            have ZG := Lib.hid HG.out.size
            have G5 := Lib.hid (grown_trans HG.out g5)
            have A5 := Lib.hid (HA.out.grown g5)
            clear o5 g5 HS cz CI HA HG
            go_wp2_with fail
            refine (piecesCut_any _ _ _ _ (joinR rows) (OwnI.ints O5.out).1 (by omega)).mono ?_
            rintro e w6 ⟨v6, rfl, o6, g6⟩
            obtain ⟨a6, c6, rfl, t6⟩ := OwnR.shape o6
            obtain ⟨K, hK⟩ : ∃ K, (cutL (joinR rows)).length = K := ⟨_, rfl⟩
            rw [hK] at t6 ⊢
            have HK := Lib.hid hK
            have O6 := Lib.hid (Own.lower (OwnI.grown O5.out g6) ZG.out)
            have G6 := Lib.hid (grown_trans G5.out g6)
            have A6 := Lib.hid (A5.out.grown g6)
            have T6 := Lib.hid t6
            clear o6 g6 t6 O5 G5 A5 hK h
            by_cases hKk : K = k
            case neg =>
              have R := Lib.hid (show ¬ JoinP rows from fun e => hKk (by have := (joinP_iff.1 e).2.2; rw [← HK.out, this, H.out]))
              have hne : ((K : Int) != (k : Int)) = true := by simp; omega
              clear hKk
              go_wp2_with fail
              go_ret2
              exact join_no R.out (ownI_none _ _) G6.out
            case pos =>
              subst hKk
              have D0 := Lib.hid (show ∃ d, w6 = w6.drewN d from ⟨0, rfl⟩)
              go_wp2_with fail
              go_loopw [12, 58] (fun u q wr => ∃ i : Nat, i ≤ K ∧ q = .int .i64 i ∧ Hid (∃ d, wr = w6.drewN d) ∧ Hid (∀ j, j < i → (cutL (joinR rows)).getD j [] = rows.getD j [])) (fun _ q _ => K - (intOf q).toNat)
              case atStart => exact ⟨0, by omega, rfl, D0, Lib.hid fun j hj => by omega⟩
              case round =>
                clear D0
                obtain ⟨i, hi, rfl, hd, hok⟩ := hrel
                have gr : w6.grownBy wr none := drewN_grown hd.out none
                by_cases hin : i < K
                · obtain ⟨b, off, ro, rc, rfl, cz, hr⟩ := (A6.out.grown gr).at i hin
                  obtain ⟨b', off', ro', rc', rfl, cy, hr'⟩ := (T6.out.grown gr).at i hin
                  obtain ⟨r1, hz⟩ : ∃ z, rows.getD i [] = z := ⟨_, rfl⟩
                  obtain ⟨r2, hy⟩ : ∃ z, (cutL (joinR rows)).getD i [] = z := ⟨_, rfl⟩
                  obtain ⟨l1, hl1⟩ : ∃ l, r1.length = l := ⟨_, rfl⟩
                  obtain ⟨l2, hl2⟩ : ∃ l, r2.length = l := ⟨_, rfl⟩
                  rw [hz, hl1] at cz hr
                  rw [hy, hl2] at cy hr'
                  have Hz := Lib.hid hz
                  have Hy := Lib.hid hy
                  clear hz hy hl1 hl2 gr
                  have i0 : (0 : Int) ≤ (i : Int) := by omega
                  have i1 : (i : Int) < K := by omega
                  by_cases he : r2 = r1
                  · have hpb := Lib.hid (pb_true he)
                    have NX : Hid (∀ j, j < i + 1 → (cutL (joinR rows)).getD j [] = rows.getD j []) := Lib.hid fun j hj => by
                      by_cases e : j = i
                      · subst e; rw [Hz.out, Hy.out]; exact he
                      · exact hok.out j (by omega)
                    clear he hok
                    go_wp2_with fail
                    go_quiet (with_reducible exact drawn2 (sameInts_impl _ _ _ _ r2 _ _ _ r1 (hr'.grown (grown_drewN _ _ _)) (hr.grown (grown_drewN _ _ _))) (congrArg Value.bool hpb.out))
                    go_wp2
                    go_roundw
                    case rel => exact ⟨i + 1, by omega, by go_num, drewN_more hd _, NX⟩
                    case measure => simp [intOf]; omega
                  · have hpb := Lib.hid (pb_false he)
                    have R := Lib.hid (show ¬ JoinP rows from fun e => he (by have := (joinP_iff.1 e).2.2; rw [← Hz.out, ← Hy.out, this]))
                    have GD : Hid (∀ d, w.grownBy (wr.drewN d) none) := Lib.hid fun d => gDrewN (grown_trans G6.out (drewN_grown hd.out none)) d
                    clear he hok
                    go_wp2_with fail
                    go_quiet (with_reducible exact drawn2 (sameInts_impl _ _ _ _ r2 _ _ _ r1 (hr'.grown (grown_drewN _ _ _)) (hr.grown (grown_drewN _ _ _))) (congrArg Value.bool hpb.out))
                    go_wp2
                    go_ret2
                    exact join_no R.out (ownI_none _ _) (GD.out _)
                · have hin' : i = K := by omega
                  have R := Lib.hid (show JoinP rows from joinP_iff.2 ⟨FP.out, by rw [HN.out, H.out]; exact hlt2, by
                    refine List.ext_getElem (by rw [HK.out, H.out]) fun j h1 h2 => ?_
                    have := hok.out j (by rw [HK.out] at h1; omega)
                    simpa [List.getD_eq_getElem?_getD, List.getElem?_eq_getElem h1, List.getElem?_eq_getElem h2] using this⟩)
                  have O9 := Lib.hid (OwnI.grown O6.out (drewN_grown hd.out none))
                  have G9 := Lib.hid (grown_trans G6.out (drewN_grown hd.out none))
                  clear hin' hok
                  go_wp2
                  go_ret2
                  exact join_yes R.out O9.out G9.out
end Go.Proofs.Ytkacopgfnkoifaa
