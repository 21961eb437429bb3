/- Letters opened. -/
import Derived.Test.YtedpkhboepahgaaLet
import Derived.WalkKit
import Derived.Lib.Hide
import Derived.Deep.QuietTactic
import Derived.BigQuiet
import Derived.OwnWalk
namespace Go.Proofs.Ytedpkhboepahgaa
open Go.RowKit
theorem openL_sub {b : List Int} {m : Nat} (h : b.getD 0 0 = (m : Int)) : (b.take (1 + m)).drop 1 = openL b := by
  unfold openL
  rw [h, Int.toNat_natCast, List.drop_take, Nat.add_sub_cancel_left]
set_option maxHeartbeats 2000000 in
theorem letterOpen_any (w : World) (ao : Option Addr) (n cap : Nat) (xs : List Int) (h : IntsAt w ao n cap xs) :
    Calls Try.prog 25 #[.slice ao n cap] w (RetI w (openR xs) (pb (OpenP xs))) := by
  have hm := RowAt.max h
  have hnm := RowAt.le h
  have H := Lib.hid h.len
  cases hp : pb ((xs.length : Int) = 6 ∧ ListP xs)
  · have NP : ¬ OpenP xs := fun e => (pb_not.1 hp) ⟨by have := e.1.2; omega, e.1.1⟩
    have K := Lib.hid hp
    have A := Lib.hid (openR_no NP)
    have B := Lib.hid (pb_false NP)
    clear hp NP
    go_enter Try.func25, Try.ntmps25
    go_wp2_with (go_at_call 59; refine (listOf_any _ _ _ _ _ 6 h).mono ?_; rintro e w' ⟨rfl, rfl⟩; rw [K.out])
    go_ret2
    exact ret_no A.out B.out
  · have hP := pb_iff.1 hp
    have K := Lib.hid hp
    have P1 := Lib.hid hP.2
    have h6 : xs.length = 6 := by have := hP.1; omega
    have hn : n = 6 := by rw [← H.out]; exact h6
    subst hn
    have L6 := Lib.hid h6
    obtain ⟨b, off, rfl, -, hc⟩ := IntsAt.addr h (by omega)
    have c0 := hc 0 (by omega)
    rw [Nat.add_zero] at c0
    obtain ⟨z0, z1⟩ := hP.2.2 0 (by omega)
    obtain ⟨m, hmm⟩ : ∃ m : Nat, xs.getD 0 0 = (m : Int) := Int.eq_ofNat_of_zero_le z0
    rw [hmm] at c0 z0 z1
    have HM := Lib.hid hmm
    clear hp hP h6 hc hmm
    by_cases h4 : (4 : Int) < m
    · have NP : ¬ OpenP xs := fun e => by have := e.2.1; rw [HM.out] at this; omega
      have A := Lib.hid (openR_no NP)
      have B := Lib.hid (pb_false NP)
      clear NP
      go_enter Try.func25, Try.ntmps25
      go_wp2_with (go_at_call 59; refine (listOf_any _ _ _ _ _ 6 h).mono ?_; rintro e w' ⟨rfl, rfl⟩; rw [K.out])
      go_ret2
      exact ret_no A.out B.out
    · have h4' : xs.getD 0 0 ≤ 4 := by rw [HM.out]; omega
      have PK := Lib.hid (openL_pack P1.out L6.out h4')
      have OI : Hid (OpenP xs ↔ packL (openL xs) = xs) := Lib.hid ⟨fun e => e.2.2, fun e => ⟨⟨P1.out, L6.out⟩, h4', e⟩⟩
      have S0 := IntsAt.sub h 1 (1 + m) (by omega) (by omega)
      rw [openL_sub HM.out] at S0
      rw [Nat.add_comm 1 m, Nat.add_sub_cancel] at S0
      have S := Lib.hid S0
      have OL := Lib.hid (show (openL xs).length = m by have := S0.len; simpa using this)
      have hcap1 : ¬ cap = 1 := by omega
      have q1 : (1 : Int) ≤ (m : Int) + 1 := by omega
      have q2 : (m : Int) + 1 ≤ cap := by omega
      have HA := Lib.hid h
      clear S0 h4' h
      go_enter Try.func25, Try.ntmps25
      go_wp2_with (first | (go_at_call 59; refine (listOf_any _ _ _ _ _ 6 HA.out).mono ?_; rintro e w' ⟨rfl, rfl⟩; rw [K.out]) | fail)
      refine (clone_any _ _ _ _ (openL xs) S.out (by omega)).mono ?_
      rintro e w1 ⟨a1, k1, rfl, o1, g1⟩
      have O1 := Lib.hid o1
      have A1 := Lib.hid (HA.out.grown g1)
      have G1 := Lib.hid g1
      clear o1 g1
      rw [OL.out] at O1 ⊢
      go_wp2_with fail
      refine (letterPack_any _ _ _ _ (openL xs) (OwnI.ints O1.out).1).mono ?_
      rintro e w2 ⟨a2, k2, rfl, o2, g2⟩
      rw [packR_yes PK.out, packL_len PK.out.2] at o2 ⊢
      rw [pb_true PK.out]
      have O2 := Lib.hid o2
      have P2 := Lib.hid (OwnI.grown O1.out g2)
      have A2 := Lib.hid (A1.out.grown g2)
      have G2 := Lib.hid (grown_trans G1.out g2)
      clear o2 g2
      go_wp2_with fail
      refine (sameInts_impl _ _ _ _ (packL (openL xs)) _ _ _ xs (OwnI.ints O2.out).1 A2.out).mono ?_
      rintro e w3 ⟨rfl, d3⟩
      have g3 := drewN_grown d3 none
      have G3 := Lib.hid (grown_trans G2.out g3)
      have O3 := Lib.hid (OwnI.grown P2.out g3)
      clear d3 g3
      by_cases he : packL (openL xs) = xs
      · rw [pb_true he]
        have A := Lib.hid (openR_yes (OI.out.2 he))
        have B := Lib.hid (pb_true (OI.out.2 he))
        clear he
        go_wp2_with fail
        go_ret2
        exact ret_own O3.out B.out A.out G3.out
      · rw [pb_false he]
        have NP : ¬ OpenP xs := fun e => he (OI.out.1 e)
        have A := Lib.hid (openR_no NP)
        have B := Lib.hid (pb_false NP)
        clear he NP
        go_wp2_with fail
        go_ret2
        rw [A.out, B.out]
        exact ⟨none, 0, rfl, ⟨rfl, .inl ⟨rfl, rfl⟩⟩, G3.out⟩
set_option maxHeartbeats 4000000 in
theorem letterOpenS_any (w : World) (ao : Option Addr) (n cap : Nat) (xs : List Int) (h : IntsAt w ao n cap xs) :
    Calls Try.prog 71 #[.slice ao n cap] w (RetI w (openR xs) (pb (OpenP xs))) := by
  have hm := RowAt.max h
  have hnm := RowAt.le h
  have H := Lib.hid h.len
  cases hp : pb (ListP xs)
  · have NP : ¬ OpenP xs := fun e => (pb_not.1 hp) e.1.1
    have K := Lib.hid hp
    have A := Lib.hid (openR_no NP)
    have B := Lib.hid (pb_false NP)
    have HA := Lib.hid h
    clear hp NP
    go_enter Try.func71, Try.ntmps71
    go_wp2_with fail
    go_quiet (first | with_reducible exact quiet1 (l2List_any _ _ _ _ xs (HA.out.grown (grown_drewN _ _ _))) (congrArg Value.bool K.out))
    go_wp2
    go_ret2
    exact ret_nil A.out B.out (grown_drewN _ _ _)
  · have P1 := Lib.hid (pb_iff.1 hp)
    have K := Lib.hid hp
    by_cases h6 : xs.length = 6
    case neg =>
      have NP : ¬ OpenP xs := fun e => h6 e.1.2
      have A := Lib.hid (openR_no NP)
      have B := Lib.hid (pb_false NP)
      have HA := Lib.hid h
      have hn : ((n : Int) != 6) = true := by have := H.out; simp; omega
      clear hp NP h6
      go_enter Try.func71, Try.ntmps71
      go_wp2_with fail
      go_quiet (first | with_reducible exact quiet1 (l2List_any _ _ _ _ xs (HA.out.grown (grown_drewN _ _ _))) (congrArg Value.bool K.out))
      go_wp2
      go_ret2
      exact ret_nil A.out B.out (grown_drewN _ _ _)
    have hn : n = 6 := by rw [← H.out]; exact h6
    subst hn
    have L6 := Lib.hid h6
    obtain ⟨b, off, rfl, -, hc⟩ := IntsAt.addr h (by omega)
    have c0 := hc 0 (by omega)
    have c5 := hc 5 (by omega)
    rw [Nat.add_zero] at c0
    obtain ⟨z0, z1⟩ := P1.out.2 0 (by omega)
    obtain ⟨m, hmm⟩ : ∃ m : Nat, xs.getD 0 0 = (m : Int) := Int.eq_ofNat_of_zero_le z0
    rw [hmm] at c0 z0 z1
    have HM := Lib.hid hmm
    obtain ⟨y, hy⟩ : ∃ y, xs.getD 5 0 = y := ⟨_, rfl⟩
    rw [hy] at c5
    have HY := Lib.hid hy
    obtain ⟨t, ht⟩ : ∃ t, tagL 1 (xs.take 5) = t := ⟨_, rfl⟩
    have TG := Lib.hid ht
    have S5 := Lib.hid (IntsAt.pre h 5 (by omega))
    have T5 := Lib.hid (show ListP (xs.take 5) from ⟨by simp; omega, fun j hj => by
      rw [List.length_take] at hj
      have := P1.out.2 j (by omega)
      simpa [List.getD_eq_getElem?_getD, show j < 5 by omega] using this⟩)
    have HA := Lib.hid h
    have i5 : (5 : Int) ≤ cap := by omega
    clear hp h6 hmm hy ht h
    by_cases ety : t = y
    case neg =>
      have NP : ¬ OpenP xs := fun e => ety (by have := ((open_iff P1.out L6.out e.2.1).1 e.2.2).1; rw [TG.out, HY.out] at this; exact this)
      have A := Lib.hid (openR_no NP)
      have B := Lib.hid (pb_false NP)
      have en : (t != y) = true := by simpa using ety
      clear NP hc
      go_enter Try.func71, Try.ntmps71
      go_wp2_with fail
      go_quiet (first | with_reducible exact quiet1 (l2List_any _ _ _ _ xs (HA.out.grown (grown_drewN _ _ _))) (congrArg Value.bool K.out) | with_reducible exact quiet1 (l3Tag_any 1 _ _ _ _ (xs.take 5) (by omega) (S5.out.grown (grown_drewN _ _ _)) T5.out) (congrArg (Value.int .i64) TG.out))
      go_wp2
      go_ret2
      exact ret_nil A.out B.out (grown_drewN _ _ _)
    subst ety
    have ee : (t != t) = false := by simp
    by_cases h4 : (4 : Int) < m
    · have NP : ¬ OpenP xs := fun e => by have := e.2.1; rw [HM.out] at this; omega
      have A := Lib.hid (openR_no NP)
      have B := Lib.hid (pb_false NP)
      clear NP hc
      go_enter Try.func71, Try.ntmps71
      go_wp2_with fail
      go_quiet (first | with_reducible exact quiet1 (l2List_any _ _ _ _ xs (HA.out.grown (grown_drewN _ _ _))) (congrArg Value.bool K.out) | with_reducible exact quiet1 (l3Tag_any 1 _ _ _ _ (xs.take 5) (by omega) (S5.out.grown (grown_drewN _ _ _)) T5.out) (congrArg (Value.int .i64) TG.out))
      go_wp2
      go_ret2
      exact ret_nil A.out B.out (grown_drewN _ _ _)
    · have h4' : xs.getD 0 0 ≤ 4 := by rw [HM.out]; omega
      have OI := Lib.hid (open_iff P1.out L6.out h4')
      have OP : Hid (packL (openL xs) = xs → OpenP xs) := Lib.hid fun e => ⟨⟨P1.out, L6.out⟩, h4', e⟩
      have HC := Lib.hid hc
      have HT := Lib.hid (show tagL 1 (xs.take 5) = xs.getD 5 0 by rw [TG.out, HY.out])
      clear h4' hc
      go_enter Try.func71, Try.ntmps71
      go_wp2_with fail
      go_quiet (first | with_reducible exact quiet1 (l2List_any _ _ _ _ xs (HA.out.grown (grown_drewN _ _ _))) (congrArg Value.bool K.out) | with_reducible exact quiet1 (l3Tag_any 1 _ _ _ _ (xs.take 5) (by omega) (S5.out.grown (grown_drewN _ _ _)) T5.out) (congrArg (Value.int .i64) TG.out))
      obtain ⟨W, hW⟩ : ∃ W, w.drewN nq = W := ⟨_, rfl⟩
      have GW := Lib.hid (show w.grownBy W none by rw [← hW]; exact grown_drewN _ _ _)
      rw [hW]
      have AW := Lib.hid (HA.out.grown GW.out)
      have c0 := GW.out.cell c0 (by simp)
      clear hW ee i5 z1 TG S5 T5
      have m4 : (m : Int) ≤ 4 := by omega
      go_wp2
      go_loop [5] (fun q => ∃ i : Nat, m + 1 ≤ i ∧ i ≤ 5 ∧ q = .int .i64 i ∧ Hid (∀ j, m + 1 ≤ j → j < i → xs.getD j 0 = 0)) (fun q => 5 - (intOf q).toNat)
      case atStart => exact ⟨m + 1, by omega, by omega, by go_num, Lib.hid fun j h1 h2 => by omega⟩
      case round =>
        obtain ⟨i, hi1, hi2, rfl, hz⟩ := hrel
        by_cases hlt : i < 5
        · obtain ⟨b', off', e1, -, hc⟩ := IntsAt.addr AW.out (by omega)
          simp only [Option.some.injEq, Addr.mk.injEq, and_true] at e1
          obtain ⟨rfl, rfl⟩ := e1
          have ci := hc i (by omega)
          obtain ⟨z, hzz⟩ : ∃ z, xs.getD i 0 = z := ⟨_, rfl⟩
          rw [hzz] at ci
          have HZ := Lib.hid hzz
          have q0 : (i : Int) < 5 := by omega
          have q1 : (0 : Int) ≤ (i : Int) := by omega
          have q2 : (i : Int) < 6 := by omega
          clear hc hzz
          by_cases z0 : z = 0
          · subst z0
            have NZ := Lib.hid (show ∀ j, m + 1 ≤ j → j < i + 1 → xs.getD j 0 = 0 from fun j h1 h2 => by
              by_cases e : j = i
              · subst e; exact HZ.out
              · exact hz.out j h1 (by omega))
            clear hz
            go_wp2_with fail
            go_round
            case rel => exact ⟨i + 1, by omega, by omega, by go_num, NZ⟩
            case measure => simp [intOf]; omega
          · have zz : (z != 0) = true := by simpa using z0
            have NP : ¬ OpenP xs := fun e => z0 (by rw [← HZ.out]; exact (OI.out.1 e.2.2).2 i (by rw [HM.out]; omega) hlt)
            have A := Lib.hid (openR_no NP)
            have B := Lib.hid (pb_false NP)
            clear NP z0 hz
            go_wp2_with fail
            go_ret2
            exact ret_nil A.out B.out GW.out
        · have hi5 : i = 5 := by omega
          subst hi5
          have e4 : xs.getD 0 0 ≤ 4 := by rw [HM.out]; omega
          have PK := Lib.hid (openL_pack P1.out L6.out e4)
          have OK : OpenP xs := OP.out (OI.out.2 ⟨HT.out, fun j h1 h2 => hz.out j (by rw [HM.out] at h1; omega) h2⟩)
          have A := Lib.hid (openR_yes OK)
          have B := Lib.hid (pb_true OK)
          have S0 := IntsAt.sub AW.out 1 (1 + m) (by omega) (by omega)
          rw [openL_sub HM.out] at S0
          rw [Nat.add_comm 1 m, Nat.add_sub_cancel] at S0
          have S := Lib.hid (S0.grown (grown_alloc W (.cells #[] 3) none))
          have N0 := Lib.hid (own_nil w.heap.size W GW.out.size)
          have hcap1 : ¬ cap = 1 := by omega
          have q1 : (1 : Int) ≤ (m : Int) + 1 := by omega
          have q2 : (m : Int) + 1 ≤ cap := by omega
          have GA := Lib.hid (gAlloc GW.out (.cells #[] 3))
          have cA := (grown_alloc W (.cells #[] 3) none).cell c0 (by simp)
          clear S0 e4 OK hz
          go_wp2_with (at_builtin; refine app_ints rfl (.tmp 47) (.tmp 53) rfl N0.out S.out rfl rfl GA.out.size (by have := PK.out.2; simp; omega) ?_; intro v5 w5 o5 g5)
          have G5 := Lib.hid (grown_own GA.out N0.out g5 (Nat.le_refl _))
          have O5 := Lib.hid (own_eq o5 (show openL xs = [] ++ openL xs from rfl))
          clear o5 g5
          obtain ⟨a5, k5, rfl, -, -⟩ := OwnI.shape O5.out
          go_wp2
          go_ret2
          exact ret_own O5.out B.out A.out G5.out
end Go.Proofs.Ytedpkhboepahgaa
