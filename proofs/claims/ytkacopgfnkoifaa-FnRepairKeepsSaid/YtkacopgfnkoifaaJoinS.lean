/- PiecesJoin of the reference. -/
import Derived.Test.YtkacopgfnkoifaaJoin
import Derived.Test.YtkacopgfnkoifaaCutS
import Derived.WalkKit
import Derived.Lib.Hide
import Derived.Deep.QuietTactic
import Derived.BigQuiet
namespace Go.Proofs.Ytkacopgfnkoifaa
open Go.RowKit
set_option maxHeartbeats 4000000 in
theorem piecesJoinS_any (w : World) (ao : Option Addr) (n cap : Nat) (rows : List (List Int)) (h : RowsAt w ao n cap rows) :
    Calls Try.prog 38 #[.slice ao n cap] w (JoinPost w rows) := by
  have H := Lib.hid h.len
  have ON := Lib.hid (own_nil w.heap.size w (Nat.le_refl _))
  have GN := Lib.hid (grown_alloc w (.cells #[] 3) none)
  go_enter Try.func38, Try.ntmps38
  go_wp2_with fail
  refine (l23Missing_any _ _ _ _ _ h).mono ?_
  rintro e w1 ⟨⟨hP, rfl⟩ | ⟨hP, rfl⟩, rfl⟩
  case inr =>
    have R := Lib.hid (show ¬ JoinP rows from fun e => hP e.1.1)
    clear hP
    go_wp2_with fail
    go_ret2
    exact join_no R.out ON.out GN.out
  case inl =>
    obtain ⟨E, hE⟩ : ∃ E, emptN rows rows.length = E := ⟨_, rfl⟩
    rw [hE]
    have HE := Lib.hid hE
    have HP := Lib.hid hP
    clear hE hP
    by_cases hE0 : E = 0
    case neg =>
      have e1 : ((E : Int) != 0) = true := by simp; omega
      have R := Lib.hid (show ¬ JoinP rows from fun e => hE0 (by rw [← HE.out]; exact e.1.2))
      clear hE0
      go_wp2_with fail
      go_ret2
      exact join_no R.out ON.out GN.out
    case pos =>
      subst hE0
      have FP : Hid (FullP rows) := Lib.hid ⟨HP.out, HE.out⟩
      have hn5 : n ≤ 5 := by have := HP.out.1.2; have := H.out; omega
      have hn1 : 1 ≤ n := by have := HP.out.1.1; have := H.out; omega
      go_wp2_with fail
      go_loopw [4, 5] (fun v q wr => ∃ k : Nat, k ≤ n ∧ q = .int .i64 k ∧ Hid (OwnI w.heap.size wr v (catR rows k)) ∧ Hid (w.grownBy wr none)) (fun _ q _ => n - (intOf q).toNat)
      case atStart => exact ⟨0, by omega, rfl, ON, GN⟩
      case round =>
        clear ON GN
        obtain ⟨k, hk, rfl, ho, hg⟩ := hrel
        obtain ⟨wo, rfl⟩ : ∃ wo : World, wo = wr := ⟨_, rfl⟩
        have zo := hg.out.size
        by_cases hlt : k < n
        · obtain ⟨b, off, ro, rc, rfl, cc, hrow⟩ := (h.grown hg.out).at k hlt
          have hone := FP.out.row k (by rw [H.out]; exact hlt)
          have hcl := catR_len (rows := rows) k fun i hi => (FP.out.row i (by rw [H.out]; omega)).1
          obtain ⟨row, hz⟩ : ∃ z, rows.getD k [] = z := ⟨_, rfl⟩
          rw [hz] at cc hrow hone
          rw [hone.1] at cc hrow
          have NX := Lib.hid (show catR rows (k + 1) = catR rows k ++ row by rw [catR, hz])
          have HROW := Lib.hid hrow
          have HC := Lib.hid hone
          have HCL := Lib.hid hcl
          clear hz hrow hone hcl
          go_wp2_with (at_builtin; refine app_ints rfl (.tmp 19) (.tmp 23) rfl ho.out HROW.out rfl rfl zo (by rw [HCL.out, HC.out.1]; omega) ?_; intro v2 w2 o2 g2; refine Hid.out ?_)
          show wpList _ _ _ _ _ _
          have G2 := Lib.hid (grown_own hg.out ho.out g2 (Nat.le_refl _))
          have O2 := Lib.hid (show OwnI w.heap.size w2 v2 (catR rows (k + 1)) by rw [NX.out]; exact o2)
          clear ho hg o2 g2
          go_wp2
          go_roundw
          case rel => exact ⟨k + 1, by omega, by go_num, O2, G2⟩
          case measure => simp [intOf]; omega
        · have hkn : k = n := by omega
          subst hkn
          have hcat := FP.out.cat
          have hfst := FP.out.first
          rw [H.out] at hcat hfst
          have o1 := ho.out
          obtain ⟨a1, c1, rfl, -⟩ := OwnI.shape o1
          rw [hcat] at o1 ⊢
          obtain ⟨g, e1, -, hgB, -⟩ := OwnI.at o1 (by rw [hcat]; omega)
          subst e1
          have cz := (ints_at1 o1 0 (by rw [hcat]; omega)).1
          have CI := Lib.hid (OwnI.ints o1).1
          have hcc := RowAt.le CI.out
          obtain ⟨N, hN⟩ : ∃ N, catN rows = N := ⟨_, rfl⟩
          rw [hfst.1, hN] at cz
          have hN990 : N ≤ 990 := by have := hfst.2; omega
          have HN := Lib.hid hN
          have HCAT := Lib.hid hcat
          have HG := Lib.hid hg.out
          have O1 := Lib.hid o1
          have OE := Lib.hid (own_nil w.heap.size wo zo)
          have GE := Lib.hid (gAlloc hg.out (.cells #[] 3))
          clear o1 hcat hfst hN ho hg
          obtain ⟨c, hc⟩ : ∃ c, cutC N = c := ⟨_, rfl⟩
          have HC := Lib.hid hc
          have hcq : ((N : Int) + 3) / 3 = (c : Int) := by rw [← hc]; unfold cutC; omega
          have hcn : (N + 3) / 3 = c := by rw [← hc]; rfl
          have hc9 : c ≤ 400 := by omega
          clear hc
          by_cases hck : c = k
          case neg =>
            have R := Lib.hid (show ¬ JoinP rows from fun e => hck (by have := e.2.1; rw [HN.out, H.out, HC.out] at this; exact this))
            have hne : ((c : Int) != (k : Int)) = true := by simp; omega
            clear hck
            go_wp2_with (go_at_call 42; refine (l23Count_any _ (by omega) _).mono ?_; rintro e w' ⟨rfl, rfl⟩; rw [HC.out])
            go_ret2
            exact join_no R.out OE.out GE.out
          case pos =>
            subst hck
            have hN1 : N + 1 ≤ c * 3 := by omega
            have HJL := Lib.hid (show (joinR rows).length = N by rw [joinR_len FP.out (by rw [HN.out, H.out]; omega), HN.out])
            go_wp2_with (go_at_call 42; refine (l23Count_any _ (by omega) _).mono ?_; rintro e w' ⟨rfl, rfl⟩; rw [HC.out])
            go_loop [7] (fun q => ∃ i : Nat, N + 1 ≤ i ∧ i ≤ c * 3 ∧ q = .int .i64 i ∧ Hid (∀ j, N + 1 ≤ j → j < i → (catR rows rows.length).getD j 0 = 0)) (fun q => c * 3 - (intOf q).toNat)
            case atStart => exact ⟨N + 1, by omega, by omega, by go_num, Lib.hid fun j h1 h2 => by omega⟩
            case round =>
              obtain ⟨i, hi1, hi2, rfl, hok⟩ := hrel
              by_cases hin : i < c * 3
              · have cy := (ints_at1 O1.out i (by rw [HCAT.out]; exact hin)).1
                obtain ⟨z, hz⟩ : ∃ z, (catR rows c).getD i 0 = z := ⟨_, rfl⟩
                rw [hz] at cy
                have Hz := Lib.hid hz
                clear hz
                by_cases hz0 : z = 0
                · have NX : Hid (∀ j, N + 1 ≤ j → j < i + 1 → (catR rows rows.length).getD j 0 = 0) := Lib.hid fun j h1 h2 => by
                    by_cases e : j = i
                    · subst e; rw [H.out, Hz.out]; exact hz0
                    · exact hok.out j h1 (by omega)
                  subst hz0
                  clear hok
                  go_wp2
                  go_round
                  case rel => exact ⟨i + 1, by omega, by omega, by go_num, NX⟩
                  case measure => simp [intOf]; omega
                · have R := Lib.hid (show ¬ JoinP rows from fun e => hz0 (by rw [← Hz.out, ← H.out]; exact e.2.2 i (by rw [HN.out]; omega) (by rw [H.out]; omega)))
                  have hne : (z != 0) = true := by simpa using hz0
                  clear hz0 hok
                  go_wp2
                  go_ret2
                  exact join_no R.out OE.out GE.out
              · have hin' : i = c * 3 := by omega
                have R := Lib.hid (show JoinP rows from ⟨FP.out, by rw [HN.out, HC.out, H.out], fun j h1 h2 => by
                  rw [H.out] at h2
                  exact hok.out j (by rw [← HN.out]; exact h1) (by omega)⟩)
                have hcap1 : ¬ c1 = 1 := by omega
                have S := IntsAt.sub (CI.out.grown (grown_alloc wo (.cells #[] 3) none)) 1 (N + 1) (by omega) (by omega)
                have HS : Hid (IntsAt (wo.alloc (.cells #[] 3)) (some ⟨g, 0 + 1, none⟩) (N + 1 - 1) (c1 - 1) (joinR rows)) := by
                  unfold joinR
                  rw [HN.out, H.out]
                  exact Lib.hid S
                have Z := Lib.hid GE.out.size
                clear hin' hok S
                go_wp2_with (at_builtin; refine app_ints rfl (.tmp 48) (.tmp 52) rfl OE.out HS.out rfl rfl Z.out (by rw [HJL.out]; simp; omega) ?_; intro v9 w9 o9 g9; refine Hid.out ?_)
                show wpList _ _ _ _ _ _
                rw [List.nil_append] at o9
                have G9 := Lib.hid (grown_own GE.out OE.out g9 (Nat.le_refl _))
                have O9 := Lib.hid o9
                clear o9 g9
                go_wp2
                go_ret2
                exact join_yes R.out O9.out G9.out
end Go.Proofs.Ytkacopgfnkoifaa
